/- A part of a proof of DeclReadsProof. -/
import Derived.Test.YthlofmnmacpogaaGreatDoorRt42
set_option maxRecDepth 100000
set_option maxHeartbeats 40000000
namespace Go.Proofs.YthlofmnmacpogaaGreatDoor
open Go.RowKit
theorem rdrest_attr {w:World} {B:Nat} {lv:Value} {T:List Tk} (h:TkIn w B lv T) (hB:B≤w.heap.size) (r:RS) {nv iv:Value} (hnm:NmRow w nv r.x.names) (hit:ItRow w iv r.x.ifs) (hc:Clr T r) (hk:r.x.kind=1) (he:r.er=0) (hx0:r.x.names= []) :
 Calls Tryz.prog 27 #[lv,pvV r nv iv] w (RdP w (atR T r)):=by
 have hTl:T.length≤1000000:=by obtain⟨_,_,_,hl,_⟩:=h;exact hl
 have HNM:=Lh hnm
 have HIT:=Lh hit
 obtain⟨ad1,n1,cap1,rfl⟩:=hnm.sl
 obtain⟨ad2,n2,cap2,rfl⟩:=hit.sl
 have PE:=pent w r (.slice ad1 n1 cap1) (.slice ad2 n2 cap2)
 obtain⟨W0,hW0⟩:∃ W,((w.alloc (.cells #[.int .i64 r.x.kind,.string r.x.name,.int .i64 r.x.line,.int .i64 r.x.col,.int .i64 r.x.init,.slice ad1 n1 cap1,.string r.x.role,.string r.x.stage,.string r.x.event,.int .i64 r.x.times,.slice ad2 n2 cap2,.bool r.x.final,.int .i64 r.i,.int .i64 r.er,.int .i64 r.line,.int .i64 r.col] 62)).alloc oB4)=W:=⟨_,rfl⟩
 rw[hW0] at PE
 have p0:=PE.p
 have q0:=PE.q
 have HB0:=Lh PE.lo
 have HTK:Hid (∀ W,Below w.heap.size w W→TkIn W B lv T):=fun W hW=>h.below (hW.mono hB)
 have HBB:=Lh hB
 have HCL:=Lh hc
 obtain⟨c0,c1,c2,c3,c4,c5,c6,c7,c8,c9,c10,c11,c12,c13,c14,c15⟩:=p0.facts
 obtain⟨y0,y1,y2,y3,y4,y5,y6,y7,y8,y9,y10,y11,y12,y13,y14,y15⟩:=p0.free
 clear h hB hnm hit PE hc
 have hk1: (r.x.kind == 1)=true:=by rw[hk];rfl
 have hk3: (r.x.kind == 3)=false:=by rw[hk];rfl
 have hk4: (r.x.kind == 4)=false:=by rw[hk];rfl
 have hk5: (r.x.kind == 5)=false:=by rw[hk];rfl
 have hk6: (r.x.kind == 6)=false:=by rw[hk];rfl
 have hk7: (r.x.kind == 7)=false:=by rw[hk];rfl
 have HE0:=Lh he
 have HX0:=Lh hx0
 clear hk he hx0
 rw[pv_is r]
 have M2:=fun W (hW:Below w.heap.size w W)=>rdmust_any (HTK.out W hW) (Nat.le_trans HBB.out hW.size) r (nv:=(.slice ad1 n1 cap1)) (iv:=(.slice ad2 n2 cap2)) ⟨_,_,_,rfl⟩ ⟨_,_,_,rfl⟩ 4 sEq (fun e=>(HCL.out e).1)
 obtain⟨r2,hr2⟩:∃ q,needD T 4 sEq r=q:=⟨_,rfl⟩
 have c2':Clr T r2:=by rw[←hr2];exact HCL.out.need 4 sEq (by decide)
 have HX2:Hid (r2.x.names=r.x.names∧r2.x.ifs=r.x.ifs):=by
  have:r2.x=r.x:=by rw[←hr2];exact needD_x _ _ _ _
  rw[this];exact⟨rfl,rfl⟩
 have CL2:=Lh c2'
 have HU:Hid (atR T r=setInit (numW T r2) (numD T r2)):=by unfold Hid atR;rw[hr2]
 have HNI:Hid (r.i≤r2.i∧r2.i≤r.i+1):=by rw[←hr2];exact needD_i _ _ _ _
 rw[hr2] at M2
 replace M2:=Lh M2
 clear hr2 c2'
 obtain⟨x,hx⟩:∃ x,tkAt T r2.i=x:=⟨_,rfl⟩
 have HX:=Lh hx
 obtain⟨hf0,hf1⟩:=tk_fields x
 have hf2:=tk_num x
 have HT:=fun W (hW:Below w.heap.size w W)=>rdtok_any (HTK.out W hW) r2.i
 replace HT:=Lh HT
 clear hx
 go_enter Tryz.func27,Tryz.ntmps27
 go_wp2_with (first| (refine lP rfl rfl rfl (by assumption) ?_)| (refine sP rfl rfl rfl rfl (by assumption) ?_)|fail)
 refine(M2.out _ HB0.out).mono ?_
 rintro en w1 ⟨rfl,hb1⟩
 skip
 have pp1:=p0.below hb1
 have qq1:=q0.below hb1
 have HBB1:=Lh (HB0.out.trans (hb1.mono HB0.out.size))
 clear hb1 p0 q0
 go_wp2_with (first| (refine lP rfl rfl rfl (by assumption) ?_)| (refine sP rfl rfl rfl rfl (by assumption) ?_)|fail)
 unfold Hid
 intro W1 p1 k1
 have q1:=k1.pb qq1 (show w.heap.size+1≠w.heap.size by omega)
 have HB1:=Lh (k1.below HBB1.out (Nat.le_refl _))
 try clear e0 e1 e2 e3 e4 e5 e6 e7 e8 e9 e10 e11 e12 e13 e14 e15
 try clear v0 v1 v2 v3 v4 v5 v6 v7 v8 v9 v10 v11 v12 v13 v14 v15
 obtain⟨e0,e1,e2,e3,e4,e5,e6,e7,e8,e9,e10,e11,e12,e13,e14,e15⟩:=p1.facts
 obtain⟨v0,v1,v2,v3,v4,v5,v6,v7,v8,v9,v10,v11,v12,v13,v14,v15⟩:=p1.free
 clear pp1 qq1 k1
 have NM1:=Lh (HNM.out.keep HB1.out)
 have IT1:=Lh (HIT.out.keep HB1.out)
 rw[←HX2.out.1] at NM1
 rw[←HX2.out.2] at IT1
 by_cases he2:r2.er=0
 · have heb: (r2.er == 0)=true:=by rw[beq_iff_eq];exact he2
   have HE2:=Lh he2
   clear he2
   go_wp2_with (first| (refine lP rfl rfl rfl (by assumption) ?_)| (refine sP rfl rfl rfl rfl (by assumption) ?_)|fail)
   refine(HT.out _ HB1.out).mono ?_
   rintro en w2 ⟨rfl,hb2⟩
   rw[HX.out]
   unfold tokV
   have p2:=p1.below hb2
   have q2:=q1.below hb2
   have HB2:=Lh (HB1.out.trans (hb2.mono HB1.out.size))
   have NM2:=Lh (NM1.out.keep hb2)
   have IT2:=Lh (IT1.out.keep hb2)
   try clear e0 e1 e2 e3 e4 e5 e6 e7 e8 e9 e10 e11 e12 e13 e14 e15
   try clear v0 v1 v2 v3 v4 v5 v6 v7 v8 v9 v10 v11 v12 v13 v14 v15
   obtain⟨e0,e1,e2,e3,e4,e5,e6,e7,e8,e9,e10,e11,e12,e13,e14,e15⟩:=p2.facts
   obtain⟨v0,v1,v2,v3,v4,v5,v6,v7,v8,v9,v10,v11,v12,v13,v14,v15⟩:=p2.free
   clear hb2 p1 q1
   by_cases hk:x.kind=3
   · have hkb: (x.kind !=3)=false:=by simpa using hk
     have HN:=Lh (num_ok HE2.out (by rw[HX.out];exact hk))
     have hwr:IntKind.i64.wrap (r2.i+1)=r2.i+1:=IntWalk.i64_in _ ⟨by have:=(CL2.out HE2.out).1.1;omega,by have:=(CL2.out HE2.out).1.2;omega⟩
     clear hk
     go_wp2_with (first| (refine lP rfl rfl rfl (by assumption) ?_)| (refine sP rfl rfl rfl rfl (by assumption) ?_)|fail)
     refine(HT.out _ HB2.out).mono ?_
     rintro en w3 ⟨rfl,hb3⟩
     rw[HX.out]
     unfold tokV
     have p3:=p2.below hb3
     have q3:=q2.below hb3
     have HB3:=Lh (HB2.out.trans (hb3.mono HB2.out.size))
     have NM3:=Lh (NM2.out.keep hb3)
     have IT3:=Lh (IT2.out.keep hb3)
     try clear e0 e1 e2 e3 e4 e5 e6 e7 e8 e9 e10 e11 e12 e13 e14 e15
     try clear v0 v1 v2 v3 v4 v5 v6 v7 v8 v9 v10 v11 v12 v13 v14 v15
     obtain⟨e0,e1,e2,e3,e4,e5,e6,e7,e8,e9,e10,e11,e12,e13,e14,e15⟩:=p3.facts
     obtain⟨v0,v1,v2,v3,v4,v5,v6,v7,v8,v9,v10,v11,v12,v13,v14,v15⟩:=p3.free
     clear hb3 p2 q2
     obtain⟨V1,hV1⟩:∃ W,(w3.setCell ⟨w.heap.size,4,none⟩ (.int .i64 x.num))=W:=⟨_,rfl⟩
     have p8:=p3.putInit x.num
     have q8:=q3.over (show w.heap.size+1≠w.heap.size by omega) (.int .i64 x.num) (j:=4)
     have hbV1:=HB3.out.setCell (p:=⟨w.heap.size,4,none⟩) (Nat.le_refl _) (.int .i64 x.num)
     rw[hV1] at p8 q8 hbV1
     have HB8:=Lh hbV1
     clear hbV1
     have NM8:Hid (NmRow V1 (.slice ad1 n1 cap1) r2.x.names):=by unfold Hid;rw[←hV1];exact(KeptP.cell w3 w.heap.size 4 (.int .i64 x.num)).nm p3 NM3.out
     have IT8:Hid (ItRow V1 (.slice ad2 n2 cap2) r2.x.ifs):=by unfold Hid;rw[←hV1];exact(KeptP.cell w3 w.heap.size 4 (.int .i64 x.num)).it p3 IT3.out
     try clear g0 g1 g2 g3 g4 g5 g6 g7 g8 g9 g10 g11 g12 g13 g14 g15
     try clear u0 u1 u2 u3 u4 u5 u6 u7 u8 u9 u10 u11 u12 u13 u14 u15
     obtain⟨g0,g1,g2,g3,g4,g5,g6,g7,g8,g9,g10,g11,g12,g13,g14,g15⟩:=p8.facts
     obtain⟨u0,u1,u2,u3,u4,u5,u6,u7,u8,u9,u10,u11,u12,u13,u14,u15⟩:=p8.free
     replace g12:V1.cell? ⟨w.heap.size,12,none⟩ = some (.int .i64 r2.i):=g12
     obtain⟨V2,hV2⟩:∃ W,(V1.setCell ⟨w.heap.size,12,none⟩ (.int .i64 (r2.i+1)))=W:=⟨_,rfl⟩
     have p9:=p8.putI (r2.i+1)
     have q9:=q8.over (show w.heap.size+1≠w.heap.size by omega) (.int .i64 (r2.i+1)) (j:=12)
     have hbV2:=HB8.out.setCell (p:=⟨w.heap.size,12,none⟩) (Nat.le_refl _) (.int .i64 (r2.i+1))
     rw[hV2] at p9 q9 hbV2
     have HB9:=Lh hbV2
     clear hbV2
     have NM9:Hid (NmRow V2 (.slice ad1 n1 cap1) r2.x.names):=by unfold Hid;rw[←hV2];exact(KeptP.cell V1 w.heap.size 12 (.int .i64 (r2.i+1))).nm p8 NM8.out
     have IT9:Hid (ItRow V2 (.slice ad2 n2 cap2) r2.x.ifs):=by unfold Hid;rw[←hV2];exact(KeptP.cell V1 w.heap.size 12 (.int .i64 (r2.i+1))).it p8 IT8.out
     obtain⟨Rb,hRb⟩:∃ R,({ (setInit x.num r2) with i:=r2.i+1 }:RS)=R:=⟨_,rfl⟩
     have HXN:Hid (Rb.x.names=r2.x.names∧Rb.x.ifs=r2.x.ifs):=by rw[←hRb];exact⟨rfl,rfl⟩
     have HEQ:Hid (EqR Rb (atR T r)):=by unfold Hid;rw[HU.out,←hRb];rw[HN.out.1,HN.out.2,HX.out];exact EqR.refl _
     have pb':PB V2 w.heap.size Rb (.slice ad1 n1 cap1) (.slice ad2 n2 cap2):=by rw[←hRb];exact p9
     clear p3 q3 p8 q8 hRb p9
     go_wp2_with (first| (refine lP rfl rfl rfl (by assumption) ?_)| (refine sP rfl rfl rfl rfl (by assumption) ?_)|fail)
     unfold Hid
     intro W9 qe ke
     have hbe:=ke.below HB9.out (show w.heap.size≤w.heap.size+1 by omega)
     have hnm9:NmRow W9 (.slice ad1 n1 cap1) Rb.x.names:=by rw[HXN.out.1];exact ke.nm q9 NM9.out
     have hit9:ItRow W9 (.slice ad2 n2 cap2) Rb.x.ifs:=by rw[HXN.out.2];exact ke.it q9 IT9.out
     go_wp2
     exact bodyPost_ret (run_resP (by rfl) (by rfl) qe) rfl ⟨_,_,_,rfl,HEQ.out,hnm9,hit9,hbe⟩
   · have hkb: (x.kind !=3)=true:=by simpa using hk
     have HN:=Lh (num_kind (T:=T) (r:=r2) (by rw[HX.out];exact hk))
     have HBD:=Lh (rdbad_any (HTK.out _ HB2.out) (Nat.le_trans HBB.out HB2.out.size) r2 (nv:=(.slice ad1 n1 cap1)) (iv:=(.slice ad2 n2 cap2)) ⟨_,_,_,rfl⟩ ⟨_,_,_,rfl⟩ 4)
     have HEQ:Hid (EqR (failD T 4 r2) (atR T r)):=by
      unfold Hid;rw[HU.out,HN.out.1,HN.out.2]
      exact⟨rfl,rfl,rfl,fun h=>absurd (show(failD T 4 r2).er=0 from h) failD_no⟩
     have HXN:Hid ((failD T 4 r2).x=r2.x):=by unfold Hid failD;split <;> rfl
     clear hk
     go_wp2_with (first| (refine lP rfl rfl rfl (by assumption) ?_)| (refine sP rfl rfl rfl rfl (by assumption) ?_)|fail)
     refine HBD.out.mono ?_
     rintro en w3 ⟨rfl,hb3⟩
     obtain⟨Rb,hRb⟩:∃ R,failD T 4 r2=R:=⟨_,rfl⟩
     rw[hRb] at HEQ HXN ⊢
     have q3:=q2.below hb3
     have HB3:=Lh (HB2.out.trans (hb3.mono HB2.out.size))
     have NM3:=Lh (NM2.out.keep hb3)
     have IT3:=Lh (IT2.out.keep hb3)
     clear hb3 p2 q2 hRb
     go_wp2_with (first| (refine lP rfl rfl rfl (by assumption) ?_)| (refine sP rfl rfl rfl rfl (by assumption) ?_)|fail)
     unfold Hid
     intro W9 qe ke
     have hbe:=ke.below HB3.out (show w.heap.size≤w.heap.size+1 by omega)
     have hnm9:NmRow W9 (.slice ad1 n1 cap1) Rb.x.names:=by rw[HXN.out];exact ke.nm q3 NM3.out
     have hit9:ItRow W9 (.slice ad2 n2 cap2) Rb.x.ifs:=by rw[HXN.out];exact ke.it q3 IT3.out
     go_wp2
     exact bodyPost_ret (run_resP (by rfl) (by rfl) qe) rfl ⟨_,_,_,rfl,HEQ.out,hnm9,hit9,hbe⟩
 · have heb: (r2.er == 0)=false:=beq_eq_false_iff_ne.2 he2
   have HN:=Lh (num_bad (T:=T) he2)
   have HE2:=Lh he2
   have hwr:IntKind.i64.wrap (r2.i+1)=r2.i+1:=IntWalk.i64_in _ ⟨by have:=HNI.out.1;have:=(HCL.out HE0.out).1.1;omega,by have:=HNI.out.2;have:=(HCL.out HE0.out).1.2;omega⟩
   clear he2
   go_wp2_with (first| (refine lP rfl rfl rfl (by assumption) ?_)| (refine sP rfl rfl rfl rfl (by assumption) ?_)|fail)
   refine(HT.out _ HB1.out).mono ?_
   rintro en w2 ⟨rfl,hb2⟩
   rw[HX.out]
   unfold tokV
   have p2:=p1.below hb2
   have q2:=q1.below hb2
   have HB2:=Lh (HB1.out.trans (hb2.mono HB1.out.size))
   have NM2:=Lh (NM1.out.keep hb2)
   have IT2:=Lh (IT1.out.keep hb2)
   try clear e0 e1 e2 e3 e4 e5 e6 e7 e8 e9 e10 e11 e12 e13 e14 e15
   try clear v0 v1 v2 v3 v4 v5 v6 v7 v8 v9 v10 v11 v12 v13 v14 v15
   obtain⟨e0,e1,e2,e3,e4,e5,e6,e7,e8,e9,e10,e11,e12,e13,e14,e15⟩:=p2.facts
   obtain⟨v0,v1,v2,v3,v4,v5,v6,v7,v8,v9,v10,v11,v12,v13,v14,v15⟩:=p2.free
   clear hb2 p1 q1
   obtain⟨V1,hV1⟩:∃ W,(w2.setCell ⟨w.heap.size,4,none⟩ (.int .i64 x.num))=W:=⟨_,rfl⟩
   have p8:=p2.putInit x.num
   have q8:=q2.over (show w.heap.size+1≠w.heap.size by omega) (.int .i64 x.num) (j:=4)
   have hbV1:=HB2.out.setCell (p:=⟨w.heap.size,4,none⟩) (Nat.le_refl _) (.int .i64 x.num)
   rw[hV1] at p8 q8 hbV1
   have HB8:=Lh hbV1
   clear hbV1
   have NM8:Hid (NmRow V1 (.slice ad1 n1 cap1) r2.x.names):=by unfold Hid;rw[←hV1];exact(KeptP.cell w2 w.heap.size 4 (.int .i64 x.num)).nm p2 NM2.out
   have IT8:Hid (ItRow V1 (.slice ad2 n2 cap2) r2.x.ifs):=by unfold Hid;rw[←hV1];exact(KeptP.cell w2 w.heap.size 4 (.int .i64 x.num)).it p2 IT2.out
   try clear g0 g1 g2 g3 g4 g5 g6 g7 g8 g9 g10 g11 g12 g13 g14 g15
   try clear u0 u1 u2 u3 u4 u5 u6 u7 u8 u9 u10 u11 u12 u13 u14 u15
   obtain⟨g0,g1,g2,g3,g4,g5,g6,g7,g8,g9,g10,g11,g12,g13,g14,g15⟩:=p8.facts
   obtain⟨u0,u1,u2,u3,u4,u5,u6,u7,u8,u9,u10,u11,u12,u13,u14,u15⟩:=p8.free
   replace g12:V1.cell? ⟨w.heap.size,12,none⟩ = some (.int .i64 r2.i):=g12
   obtain⟨V2,hV2⟩:∃ W,(V1.setCell ⟨w.heap.size,12,none⟩ (.int .i64 (r2.i+1)))=W:=⟨_,rfl⟩
   have p9:=p8.putI (r2.i+1)
   have q9:=q8.over (show w.heap.size+1≠w.heap.size by omega) (.int .i64 (r2.i+1)) (j:=12)
   have hbV2:=HB8.out.setCell (p:=⟨w.heap.size,12,none⟩) (Nat.le_refl _) (.int .i64 (r2.i+1))
   rw[hV2] at p9 q9 hbV2
   have HB9:=Lh hbV2
   clear hbV2
   have NM9:Hid (NmRow V2 (.slice ad1 n1 cap1) r2.x.names):=by unfold Hid;rw[←hV2];exact(KeptP.cell V1 w.heap.size 12 (.int .i64 (r2.i+1))).nm p8 NM8.out
   have IT9:Hid (ItRow V2 (.slice ad2 n2 cap2) r2.x.ifs):=by unfold Hid;rw[←hV2];exact(KeptP.cell V1 w.heap.size 12 (.int .i64 (r2.i+1))).it p8 IT8.out
   obtain⟨Rb,hRb⟩:∃ R,({ (setInit x.num r2) with i:=r2.i+1 }:RS)=R:=⟨_,rfl⟩
   have HXN:Hid (Rb.x.names=r2.x.names∧Rb.x.ifs=r2.x.ifs):=by rw[←hRb];exact⟨rfl,rfl⟩
   have HEQ:Hid (EqR Rb (atR T r)):=by unfold Hid;rw[HU.out,←hRb];rw[HN.out.1,HN.out.2];exact⟨rfl,rfl,rfl,fun h=>absurd (show r2.er=0 from h) HE2.out⟩
   have pb':PB V2 w.heap.size Rb (.slice ad1 n1 cap1) (.slice ad2 n2 cap2):=by rw[←hRb];exact p9
   clear p2 q2 p8 q8 hRb p9
   go_wp2_with (first| (refine lP rfl rfl rfl (by assumption) ?_)| (refine sP rfl rfl rfl rfl (by assumption) ?_)|fail)
   unfold Hid
   intro W9 qe ke
   have hbe:=ke.below HB9.out (show w.heap.size≤w.heap.size+1 by omega)
   have hnm9:NmRow W9 (.slice ad1 n1 cap1) Rb.x.names:=by rw[HXN.out.1];exact ke.nm q9 NM9.out
   have hit9:ItRow W9 (.slice ad2 n2 cap2) Rb.x.ifs:=by rw[HXN.out.2];exact ke.it q9 IT9.out
   go_wp2
   exact bodyPost_ret (run_resP (by rfl) (by rfl) qe) rfl ⟨_,_,_,rfl,HEQ.out,hnm9,hit9,hbe⟩
end Go.Proofs.YthlofmnmacpogaaGreatDoor
