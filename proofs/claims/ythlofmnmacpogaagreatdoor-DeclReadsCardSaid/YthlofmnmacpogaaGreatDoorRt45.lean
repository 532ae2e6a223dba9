/- A part of a proof of DeclReadsProof. -/
import Derived.Test.YthlofmnmacpogaaGreatDoorRt40
import Derived.Test.YthlofmnmacpogaaGreatDoorRt41
import Derived.Test.YthlofmnmacpogaaGreatDoorRt42
set_option maxRecDepth 100000
set_option maxHeartbeats 40000000
namespace Go.Proofs.YthlofmnmacpogaaGreatDoor
open Go.RowKit
theorem rdevent_bad {w:World} {B:Nat} {lv:Value} {T:List Tk} (h:TkIn w B lv T) (hB:B≤w.heap.size) (r:RS) {nv iv:Value} (hnm:NmRow w nv r.x.names) (hit:ItRow w iv r.x.ifs) (hc:Clr T r) (hx0:r.x.names= []) (hv: (evR5 T r).er≠0) :
 Calls Tryz.prog 49 #[lv,pvV r nv iv] w (RdP w (evR7 T (evR6 T (evR5 T r)))):=by
 have hTl:T.length≤1000000:=by obtain⟨_,_,_,hl,_⟩:=h;exact hl
 have HNM:=Lh hnm
 have HIT:=Lh hit
 obtain⟨ad1,n1,cap1,rfl⟩:=hnm.sl
 obtain⟨ad2,n2,cap2,rfl⟩:=hit.sl
 have PE:=pent w r (.slice ad1 n1 cap1) (.slice ad2 n2 cap2)
 obtain⟨W0,hW0⟩:∃ W,((w.alloc (.cells #[.int .i64 r.x.kind,.string r.x.name,.int .i64 r.x.line,.int .i64 r.x.col,.int .i64 r.x.init,.slice ad1 n1 cap1,.string r.x.role,.string r.x.stage,.string r.x.event,.int .i64 r.x.times,.slice ad2 n2 cap2,.bool r.x.final,.int .i64 r.i,.int .i64 r.er,.int .i64 r.line,.int .i64 r.col] 62)).alloc oB4)=W:=⟨_,rfl⟩
 rw[hW0] at PE
 have p0:=PE.p
 have q0:=PE.q
 have HB0:=Lh PE.lo
 have HTK:Hid (∀ W,Below w.heap.size w W→TkIn W B lv T):=fun W hW=>h.below (hW.mono hB)
 have HBB:=Lh hB
 have HCL:=Lh hc
 obtain⟨c0,c1,c2,c3,c4,c5,c6,c7,c8,c9,c10,c11,c12,c13,c14,c15⟩:=p0.facts
 obtain⟨y0,y1,y2,y3,y4,y5,y6,y7,y8,y9,y10,y11,y12,y13,y14,y15⟩:=p0.free
 clear h hB hnm hit PE hc
 have HX0:=Lh hx0
 clear hx0
 rw[pv_is r]
 have c2':=HCL.out.need 2 wBy (by decide)
 obtain⟨r2,hr2⟩:∃ q,needD T 2 wBy r=q:=⟨_,rfl⟩
 have x2:r2.x=r.x:=by rw[←hr2];exact needD_x _ _ _ _
 rw[hr2] at c2'
 have c3':=c2'.name
 obtain⟨s2,hs2⟩:∃ q,nameV T r2=q:=⟨_,rfl⟩
 obtain⟨r2n,hr2n⟩:∃ q,nameD T r2=q:=⟨_,rfl⟩
 have x2n:r2n.x=r2.x:=by rw[←hr2n];exact takeD_x _ _ _
 rw[hr2n] at c3'
 obtain⟨r3,hr3⟩:∃ q,setRole s2 r2n=q:=⟨_,rfl⟩
 have c3:Clr T r3:=by rw[←hr3];exact c3'.role s2
 have c4:=c3.need 2 wIn (by decide)
 obtain⟨r4,hr4⟩:∃ q,needD T 2 wIn r3=q:=⟨_,rfl⟩
 have x4:r4.x=r3.x:=by rw[←hr4];exact needD_x _ _ _ _
 rw[hr4] at c4
 have c5':=c4.name
 obtain⟨s4,hs4⟩:∃ q,nameV T r4=q:=⟨_,rfl⟩
 obtain⟨r4n,hr4n⟩:∃ q,nameD T r4=q:=⟨_,rfl⟩
 have x4n:r4n.x=r4.x:=by rw[←hr4n];exact takeD_x _ _ _
 rw[hr4n] at c5'
 obtain⟨r5,hr5⟩:∃ q,setStage s4 r4n=q:=⟨_,rfl⟩
 have c5:Clr T r5:=by rw[←hr5];exact c5'.stage s4
 have HU5:Hid (evR5 T r=r5):=by unfold Hid evR5;dsimp only;rw[hr2,hs2,hr2n,hr3,hr4,hs4,hr4n,hr5]
 have HX5:Hid (r5.x.names=r.x.names∧r5.x.ifs=r.x.ifs):=by
  rw[←hr5];show Hid (r4n.x.names=_∧r4n.x.ifs=_)
  rw[x4n,x4,←hr3];show Hid (r2n.x.names=_∧r2n.x.ifs=_)
  rw[x2n,x2];exact⟨rfl,rfl⟩
 have M2:=fun W (hW:Below w.heap.size w W)=>rdmust_any (HTK.out W hW) (Nat.le_trans HBB.out hW.size) r (nv:=(.slice ad1 n1 cap1)) (iv:=(.slice ad2 n2 cap2)) ⟨_,_,_,rfl⟩ ⟨_,_,_,rfl⟩ 2 wBy (fun e=>(HCL.out e).1)
 have N2:=fun W (hW:Below w.heap.size w W)=>rdname_any (HTK.out W hW) (Nat.le_trans HBB.out hW.size) r2 (nv:=(.slice ad1 n1 cap1)) (iv:=(.slice ad2 n2 cap2)) ⟨_,_,_,rfl⟩ ⟨_,_,_,rfl⟩ (fun e=>(c2' e).1)
 have M4:=fun W (hW:Below w.heap.size w W)=>rdmust_any (HTK.out W hW) (Nat.le_trans HBB.out hW.size) r3 (nv:=(.slice ad1 n1 cap1)) (iv:=(.slice ad2 n2 cap2)) ⟨_,_,_,rfl⟩ ⟨_,_,_,rfl⟩ 2 wIn (fun e=>(c3 e).1)
 have N4:=fun W (hW:Below w.heap.size w W)=>rdname_any (HTK.out W hW) (Nat.le_trans HBB.out hW.size) r4 (nv:=(.slice ad1 n1 cap1)) (iv:=(.slice ad2 n2 cap2)) ⟨_,_,_,rfl⟩ ⟨_,_,_,rfl⟩ (fun e=>(c4 e).1)
 rw[hr2] at M2
 rw[hs2,hr2n] at N2
 rw[hr4] at M4
 rw[hs4,hr4n] at N4
 replace M2:=Lh M2;replace N2:=Lh N2;replace M4:=Lh M4;replace N4:=Lh N4
 have HR3:=Lh hr3;have HR5:=Lh hr5
 have CL5:=Lh c5
 clear c2' hr2 x2 c3' hs2 hr2n x2n hr3 c3 c4 hr4 x4 c5' hs4 hr4n x4n hr5 c5
 obtain⟨F6,hF6⟩:∃ F,evR6 T r5=F:=⟨_,rfl⟩
 rw[HU5.out] at hv
 rw[HU5.out,hF6]
 replace hv:=Lh hv
 replace hF6:=Lh hF6
 go_enter Tryz.func49,Tryz.ntmps49
 go_wp2_with (first| (refine lP rfl rfl rfl (by assumption) ?_)| (refine sP rfl rfl rfl rfl (by assumption) ?_)|fail)
 refine(M2.out _ HB0.out).mono ?_
 rintro en w1 ⟨rfl,hb1⟩
 skip
 have pp1:=p0.below hb1
 have qq1:=q0.below hb1
 have HBB1:=Lh (HB0.out.trans (hb1.mono HB0.out.size))
 clear hb1 p0 q0
 go_wp2_with (first| (refine lP rfl rfl rfl (by assumption) ?_)| (refine sP rfl rfl rfl rfl (by assumption) ?_)|fail)
 unfold Hid
 intro W1 p1 k1
 have q1:=k1.pb qq1 (show w.heap.size+1≠w.heap.size by omega)
 have HB1:=Lh (k1.below HBB1.out (Nat.le_refl _))
 try clear e0 e1 e2 e3 e4 e5 e6 e7 e8 e9 e10 e11 e12 e13 e14 e15
 try clear v0 v1 v2 v3 v4 v5 v6 v7 v8 v9 v10 v11 v12 v13 v14 v15
 obtain⟨e0,e1,e2,e3,e4,e5,e6,e7,e8,e9,e10,e11,e12,e13,e14,e15⟩:=p1.facts
 obtain⟨v0,v1,v2,v3,v4,v5,v6,v7,v8,v9,v10,v11,v12,v13,v14,v15⟩:=p1.free
 clear pp1 qq1 k1
 go_wp2_with (first| (refine lP rfl rfl rfl (by assumption) ?_)| (refine sP rfl rfl rfl rfl (by assumption) ?_)|fail)
 refine(N2.out _ HB1.out).mono ?_
 rintro en w2 ⟨rfl,hb2⟩
 skip
 have pp2:=p1.below hb2
 have qq2:=q1.below hb2
 have HBB2:=Lh (HB1.out.trans (hb2.mono HB1.out.size))
 clear hb2 p1 q1
 go_wp2_with (first| (refine lP rfl rfl rfl (by assumption) ?_)| (refine sP rfl rfl rfl rfl (by assumption) ?_)|fail)
 unfold Hid
 intro W2 p2 k2
 have q2:=k2.pb qq2 (show w.heap.size+1≠w.heap.size by omega)
 have HB2:=Lh (k2.below HBB2.out (Nat.le_refl _))
 try clear e0 e1 e2 e3 e4 e5 e6 e7 e8 e9 e10 e11 e12 e13 e14 e15
 try clear v0 v1 v2 v3 v4 v5 v6 v7 v8 v9 v10 v11 v12 v13 v14 v15
 obtain⟨e0,e1,e2,e3,e4,e5,e6,e7,e8,e9,e10,e11,e12,e13,e14,e15⟩:=p2.facts
 obtain⟨v0,v1,v2,v3,v4,v5,v6,v7,v8,v9,v10,v11,v12,v13,v14,v15⟩:=p2.free
 clear pp2 qq2 k2
 obtain⟨W3,hW3⟩:∃ W,(W2.setCell ⟨w.heap.size,6,none⟩ (.string s2))=W:=⟨_,rfl⟩
 have p3:=p2.putRole s2
 have q3:=q2.over (show w.heap.size+1≠w.heap.size by omega) (.string s2) (j:=6)
 have hbW3:=HB2.out.setCell (p:=⟨w.heap.size,6,none⟩) (Nat.le_refl _) (.string s2)
 rw[hW3] at p3 q3 hbW3
 have HB3:=Lh hbW3
 clear hbW3
 rw[HR3.out] at p3
 clear p2 q2
 go_wp2_with (first| (refine lP rfl rfl rfl (by assumption) ?_)| (refine sP rfl rfl rfl rfl (by assumption) ?_)|fail)
 refine(M4.out _ HB3.out).mono ?_
 rintro en w4 ⟨rfl,hb4⟩
 skip
 have pp4:=p3.below hb4
 have qq4:=q3.below hb4
 have HBB4:=Lh (HB3.out.trans (hb4.mono HB3.out.size))
 clear hb4 p3 q3
 go_wp2_with (first| (refine lP rfl rfl rfl (by assumption) ?_)| (refine sP rfl rfl rfl rfl (by assumption) ?_)|fail)
 unfold Hid
 intro W4 p4 k4
 have q4:=k4.pb qq4 (show w.heap.size+1≠w.heap.size by omega)
 have HB4:=Lh (k4.below HBB4.out (Nat.le_refl _))
 try clear e0 e1 e2 e3 e4 e5 e6 e7 e8 e9 e10 e11 e12 e13 e14 e15
 try clear v0 v1 v2 v3 v4 v5 v6 v7 v8 v9 v10 v11 v12 v13 v14 v15
 obtain⟨e0,e1,e2,e3,e4,e5,e6,e7,e8,e9,e10,e11,e12,e13,e14,e15⟩:=p4.facts
 obtain⟨v0,v1,v2,v3,v4,v5,v6,v7,v8,v9,v10,v11,v12,v13,v14,v15⟩:=p4.free
 clear pp4 qq4 k4
 go_wp2_with (first| (refine lP rfl rfl rfl (by assumption) ?_)| (refine sP rfl rfl rfl rfl (by assumption) ?_)|fail)
 refine(N4.out _ HB4.out).mono ?_
 rintro en w5 ⟨rfl,hb5⟩
 skip
 have pp5:=p4.below hb5
 have qq5:=q4.below hb5
 have HBB5:=Lh (HB4.out.trans (hb5.mono HB4.out.size))
 clear hb5 p4 q4
 go_wp2_with (first| (refine lP rfl rfl rfl (by assumption) ?_)| (refine sP rfl rfl rfl rfl (by assumption) ?_)|fail)
 unfold Hid
 intro W5 p5 k5
 have q5:=k5.pb qq5 (show w.heap.size+1≠w.heap.size by omega)
 have HB5:=Lh (k5.below HBB5.out (Nat.le_refl _))
 try clear e0 e1 e2 e3 e4 e5 e6 e7 e8 e9 e10 e11 e12 e13 e14 e15
 try clear v0 v1 v2 v3 v4 v5 v6 v7 v8 v9 v10 v11 v12 v13 v14 v15
 obtain⟨e0,e1,e2,e3,e4,e5,e6,e7,e8,e9,e10,e11,e12,e13,e14,e15⟩:=p5.facts
 obtain⟨v0,v1,v2,v3,v4,v5,v6,v7,v8,v9,v10,v11,v12,v13,v14,v15⟩:=p5.free
 clear pp5 qq5 k5
 obtain⟨W6,hW6⟩:∃ W,(W5.setCell ⟨w.heap.size,7,none⟩ (.string s4))=W:=⟨_,rfl⟩
 have p6:=p5.putStage s4
 have q6:=q5.over (show w.heap.size+1≠w.heap.size by omega) (.string s4) (j:=7)
 have hbW6:=HB5.out.setCell (p:=⟨w.heap.size,7,none⟩) (Nat.le_refl _) (.string s4)
 rw[hW6] at p6 q6 hbW6
 have HB6:=Lh hbW6
 clear hbW6
 rw[HR5.out] at p6
 try clear g0 g1 g2 g3 g4 g5 g6 g7 g8 g9 g10 g11 g12 g13 g14 g15
 try clear u0 u1 u2 u3 u4 u5 u6 u7 u8 u9 u10 u11 u12 u13 u14 u15
 obtain⟨g0,g1,g2,g3,g4,g5,g6,g7,g8,g9,g10,g11,g12,g13,g14,g15⟩:=p6.facts
 obtain⟨u0,u1,u2,u3,u4,u5,u6,u7,u8,u9,u10,u11,u12,u13,u14,u15⟩:=p6.free
 clear p5 q5 M2 N2 M4 N4
 have HNM6:=Lh (HNM.out.keep HB6.out)
 have HIT6:=Lh (HIT.out.keep HB6.out)
 have he5:=hv.out
 · skip
   have heb: (r5.er == 0)=false:=beq_eq_false_iff_ne.2 he5
   have heb2: (r5.er !=0)=true:=by simpa using he5
   have HF:Hid (evR7 T F6=r5):=by
    have h6:F6=r5:=by rw[←hF6.out];unfold evR6;rw[if_neg (by rw[mayB_bad he5];decide)]
    unfold Hid evR7;rw[h6,if_neg (by rw[mayB_bad he5];decide)]
   clear he5 hF6
   go_wp2_with (first| (refine lP rfl rfl rfl (by assumption) ?_)| (refine sP rfl rfl rfl rfl (by assumption) ?_)|fail)
   unfold Hid
   intro W9 qe ke
   have hbe:=ke.below HB6.out (show w.heap.size≤w.heap.size+1 by omega)
   have hnm9:NmRow W9 (.slice ad1 n1 cap1) r5.x.names:=by rw[HX5.out.1];exact ke.nm q6 HNM6.out
   have hit9:ItRow W9 (.slice ad2 n2 cap2) r5.x.ifs:=by rw[HX5.out.2];exact ke.it q6 HIT6.out
   go_wp2
   exact bodyPost_ret (run_resP (by rfl) (by rfl) qe) rfl ⟨_,_,_,rfl,by rw[HF.out];exact EqR.refl _,hnm9,hit9,hbe⟩
theorem rdevent_any {w:World} {B:Nat} {lv:Value} {T:List Tk} (h:TkIn w B lv T) (hB:B≤w.heap.size) (r:RS) {nv iv:Value} (hnm:NmRow w nv r.x.names) (hit:ItRow w iv r.x.ifs) (hc:Clr T r) (hx0:r.x.names= []) :
 Calls Tryz.prog 49 #[lv,pvV r nv iv] w (RdP w (evR7 T (evR6 T (evR5 T r)))):=by
 by_cases he: (evR5 T r).er=0
 · cases hq:isTk T (evR5 T r).i 2 wSets
   · exact rdevent_no h hB r hnm hit hc hx0 ⟨he,hq⟩
   · exact rdevent_sets h hB r hnm hit hc hx0 ⟨he,hq⟩
 · exact rdevent_bad h hB r hnm hit hc hx0 he
theorem rdrest_user {w:World} {B:Nat} {lv:Value} {T:List Tk} (h:TkIn w B lv T) (hB:B≤w.heap.size) (r:RS) {nv iv:Value} (hnm:NmRow w nv r.x.names) (hit:ItRow w iv r.x.ifs) (hc:Clr T r) (hk:r.x.kind=2) (he:r.er=0) (hx0:r.x.names= []) :
 Calls Tryz.prog 27 #[lv,pvV r nv iv] w (RdP w (r)):=by
 have hTl:T.length≤1000000:=by obtain⟨_,_,_,hl,_⟩:=h;exact hl
 have HNM:=Lh hnm
 have HIT:=Lh hit
 obtain⟨ad1,n1,cap1,rfl⟩:=hnm.sl
 obtain⟨ad2,n2,cap2,rfl⟩:=hit.sl
 have PE:=pent w r (.slice ad1 n1 cap1) (.slice ad2 n2 cap2)
 obtain⟨W0,hW0⟩:∃ W,((w.alloc (.cells #[.int .i64 r.x.kind,.string r.x.name,.int .i64 r.x.line,.int .i64 r.x.col,.int .i64 r.x.init,.slice ad1 n1 cap1,.string r.x.role,.string r.x.stage,.string r.x.event,.int .i64 r.x.times,.slice ad2 n2 cap2,.bool r.x.final,.int .i64 r.i,.int .i64 r.er,.int .i64 r.line,.int .i64 r.col] 62)).alloc oB4)=W:=⟨_,rfl⟩
 rw[hW0] at PE
 have p0:=PE.p
 have q0:=PE.q
 have HB0:=Lh PE.lo
 have HTK:Hid (∀ W,Below w.heap.size w W→TkIn W B lv T):=fun W hW=>h.below (hW.mono hB)
 have HBB:=Lh hB
 have HCL:=Lh hc
 obtain⟨c0,c1,c2,c3,c4,c5,c6,c7,c8,c9,c10,c11,c12,c13,c14,c15⟩:=p0.facts
 obtain⟨y0,y1,y2,y3,y4,y5,y6,y7,y8,y9,y10,y11,y12,y13,y14,y15⟩:=p0.free
 clear h hB hnm hit PE hc
 have hk1: (r.x.kind == 1)=false:=by rw[hk];rfl
 have hk3: (r.x.kind == 3)=false:=by rw[hk];rfl
 have hk4: (r.x.kind == 4)=false:=by rw[hk];rfl
 have hk5: (r.x.kind == 5)=false:=by rw[hk];rfl
 have hk6: (r.x.kind == 6)=false:=by rw[hk];rfl
 have hk7: (r.x.kind == 7)=false:=by rw[hk];rfl
 have HE0:=Lh he
 have HX0:=Lh hx0
 clear hk he hx0
 rw[pv_is r]
 clear HTK HBB HCL HE0 HX0
 go_enter Tryz.func27,Tryz.ntmps27
 go_wp2_with (first| (refine lP rfl rfl rfl (by assumption) ?_)| (refine sP rfl rfl rfl rfl (by assumption) ?_)|fail)
 unfold Hid
 intro W9 qe ke
 have hbe:=ke.below HB0.out (show w.heap.size≤w.heap.size+1 by omega)
 have hnm9:NmRow W9 (.slice ad1 n1 cap1) r.x.names:=HNM.out.keep hbe
 have hit9:ItRow W9 (.slice ad2 n2 cap2) r.x.ifs:=HIT.out.keep hbe
 go_wp2
 exact bodyPost_ret (run_resP (by rfl) (by rfl) qe) rfl ⟨_,_,_,rfl,EqR.refl _,hnm9,hit9,hbe⟩
theorem rdrest_event {w:World} {B:Nat} {lv:Value} {T:List Tk} (h:TkIn w B lv T) (hB:B≤w.heap.size) (r:RS) {nv iv:Value} (hnm:NmRow w nv r.x.names) (hit:ItRow w iv r.x.ifs) (hc:Clr T r) (hk:r.x.kind=5) (he:r.er=0) (hx0:r.x.names= []) :
 Calls Tryz.prog 27 #[lv,pvV r nv iv] w (RdP w (evR T r)):=by
 have hTl:T.length≤1000000:=by obtain⟨_,_,_,hl,_⟩:=h;exact hl
 have HNM:=Lh hnm
 have HIT:=Lh hit
 obtain⟨ad1,n1,cap1,rfl⟩:=hnm.sl
 obtain⟨ad2,n2,cap2,rfl⟩:=hit.sl
 have PE:=pent w r (.slice ad1 n1 cap1) (.slice ad2 n2 cap2)
 obtain⟨W0,hW0⟩:∃ W,((w.alloc (.cells #[.int .i64 r.x.kind,.string r.x.name,.int .i64 r.x.line,.int .i64 r.x.col,.int .i64 r.x.init,.slice ad1 n1 cap1,.string r.x.role,.string r.x.stage,.string r.x.event,.int .i64 r.x.times,.slice ad2 n2 cap2,.bool r.x.final,.int .i64 r.i,.int .i64 r.er,.int .i64 r.line,.int .i64 r.col] 62)).alloc oB4)=W:=⟨_,rfl⟩
 rw[hW0] at PE
 have p0:=PE.p
 have q0:=PE.q
 have HB0:=Lh PE.lo
 have HTK:Hid (∀ W,Below w.heap.size w W→TkIn W B lv T):=fun W hW=>h.below (hW.mono hB)
 have HBB:=Lh hB
 have HCL:=Lh hc
 obtain⟨c0,c1,c2,c3,c4,c5,c6,c7,c8,c9,c10,c11,c12,c13,c14,c15⟩:=p0.facts
 obtain⟨y0,y1,y2,y3,y4,y5,y6,y7,y8,y9,y10,y11,y12,y13,y14,y15⟩:=p0.free
 clear h hB hnm hit PE hc
 have hk1: (r.x.kind == 1)=false:=by rw[hk];rfl
 have hk3: (r.x.kind == 3)=false:=by rw[hk];rfl
 have hk4: (r.x.kind == 4)=false:=by rw[hk];rfl
 have hk5: (r.x.kind == 5)=true:=by rw[hk];rfl
 have hk6: (r.x.kind == 6)=false:=by rw[hk];rfl
 have hk7: (r.x.kind == 7)=false:=by rw[hk];rfl
 have HE0:=Lh he
 have HX0:=Lh hx0
 clear hk he hx0
 rw[pv_is r]
 go_enter Tryz.func27,Tryz.ntmps27
 go_wp2_with (first| (refine lP rfl rfl rfl (by assumption) ?_)| (refine sP rfl rfl rfl rfl (by assumption) ?_)|fail)
 rw[←pv_is r]
 refine(rdevent_any (HTK.out _ HB0.out) (Nat.le_trans HBB.out HB0.out.size) r (HNM.out.keep HB0.out) (HIT.out.keep HB0.out) HCL.out HX0.out).mono ?_
 rintro en w1 ⟨R,nv1,iv1,rfl,heq,hnm,hit,hb1⟩
 obtain⟨ad6,n6,cap6,rfl⟩:=hnm.sl
 obtain⟨ad5,n5,cap5,rfl⟩:=hit.sl
 have p1:=p0.below hb1
 have q1:=q0.below hb1
 have HB1:=Lh (HB0.out.trans (hb1.mono HB0.out.size))
 have HEQ:=Lh heq
 have HNM1:=Lh hnm
 have HIT1:=Lh hit
 clear hb1 p0 q0 heq hnm hit
 go_wp2_with (first| (refine lP rfl rfl rfl (by assumption) ?_)| (refine sP rfl rfl rfl rfl (by assumption) ?_)|fail)
 unfold Hid
 intro W2 p2 k2
 have q2:=k2.pb q1 (show w.heap.size+1≠w.heap.size by omega)
 have HB2:=Lh (k2.below HB1.out (Nat.le_refl _))
 try clear e0 e1 e2 e3 e4 e5 e6 e7 e8 e9 e10 e11 e12 e13 e14 e15
 try clear v0 v1 v2 v3 v4 v5 v6 v7 v8 v9 v10 v11 v12 v13 v14 v15
 obtain⟨e0,e1,e2,e3,e4,e5,e6,e7,e8,e9,e10,e11,e12,e13,e14,e15⟩:=p2.facts
 obtain⟨v0,v1,v2,v3,v4,v5,v6,v7,v8,v9,v10,v11,v12,v13,v14,v15⟩:=p2.free
 have NM2:=Lh (k2.nm p1 HNM1.out)
 have IT2:=Lh (k2.it p1 HIT1.out)
 clear p1 q1 k2
 go_wp2_with (first| (refine lP rfl rfl rfl (by assumption) ?_)| (refine sP rfl rfl rfl rfl (by assumption) ?_)|fail)
 unfold Hid
 intro W9 qe ke
 have hbe:=ke.below HB2.out (show w.heap.size≤w.heap.size+1 by omega)
 have hnm9:NmRow W9 (.slice ad6 n6 cap6) R.x.names:=ke.nm q2 NM2.out
 have hit9:ItRow W9 (.slice ad5 n5 cap5) R.x.ifs:=ke.it q2 IT2.out
 go_wp2
 exact bodyPost_ret (run_resP (by rfl) (by rfl) qe) rfl ⟨_,_,_,rfl,HEQ.out,hnm9,hit9,hbe⟩
theorem rdrest_guard {w:World} {B:Nat} {lv:Value} {T:List Tk} (h:TkIn w B lv T) (hB:B≤w.heap.size) (r:RS) {nv iv:Value} (hnm:NmRow w nv r.x.names) (hit:ItRow w iv r.x.ifs) (hc:Clr T r) (hk:r.x.kind=6) (he:r.er=0) (hx0:r.x.names= []) :
 Calls Tryz.prog 27 #[lv,pvV r nv iv] w (RdP w (sentryD T r)):=by
 have hTl:T.length≤1000000:=by obtain⟨_,_,_,hl,_⟩:=h;exact hl
 have HNM:=Lh hnm
 have HIT:=Lh hit
 obtain⟨ad1,n1,cap1,rfl⟩:=hnm.sl
 obtain⟨ad2,n2,cap2,rfl⟩:=hit.sl
 have PE:=pent w r (.slice ad1 n1 cap1) (.slice ad2 n2 cap2)
 obtain⟨W0,hW0⟩:∃ W,((w.alloc (.cells #[.int .i64 r.x.kind,.string r.x.name,.int .i64 r.x.line,.int .i64 r.x.col,.int .i64 r.x.init,.slice ad1 n1 cap1,.string r.x.role,.string r.x.stage,.string r.x.event,.int .i64 r.x.times,.slice ad2 n2 cap2,.bool r.x.final,.int .i64 r.i,.int .i64 r.er,.int .i64 r.line,.int .i64 r.col] 62)).alloc oB4)=W:=⟨_,rfl⟩
 rw[hW0] at PE
 have p0:=PE.p
 have q0:=PE.q
 have HB0:=Lh PE.lo
 have HTK:Hid (∀ W,Below w.heap.size w W→TkIn W B lv T):=fun W hW=>h.below (hW.mono hB)
 have HBB:=Lh hB
 have HCL:=Lh hc
 obtain⟨c0,c1,c2,c3,c4,c5,c6,c7,c8,c9,c10,c11,c12,c13,c14,c15⟩:=p0.facts
 obtain⟨y0,y1,y2,y3,y4,y5,y6,y7,y8,y9,y10,y11,y12,y13,y14,y15⟩:=p0.free
 clear h hB hnm hit PE hc
 have hk1: (r.x.kind == 1)=false:=by rw[hk];rfl
 have hk3: (r.x.kind == 3)=false:=by rw[hk];rfl
 have hk4: (r.x.kind == 4)=false:=by rw[hk];rfl
 have hk5: (r.x.kind == 5)=false:=by rw[hk];rfl
 have hk6: (r.x.kind == 6)=true:=by rw[hk];rfl
 have hk7: (r.x.kind == 7)=false:=by rw[hk];rfl
 have HE0:=Lh he
 have HX0:=Lh hx0
 clear hk he hx0
 rw[pv_is r]
 go_enter Tryz.func27,Tryz.ntmps27
 go_wp2_with (first| (refine lP rfl rfl rfl (by assumption) ?_)| (refine sP rfl rfl rfl rfl (by assumption) ?_)|fail)
 rw[←pv_is r]
 refine(rdsentry_any (HTK.out _ HB0.out) (Nat.le_trans HBB.out HB0.out.size) r (HNM.out.keep HB0.out) (HIT.out.keep HB0.out) HCL.out).mono ?_
 rintro en w1 ⟨R,nv1,iv1,rfl,heq,hnm,hit,hb1⟩
 obtain⟨ad6,n6,cap6,rfl⟩:=hnm.sl
 obtain⟨ad5,n5,cap5,rfl⟩:=hit.sl
 have p1:=p0.below hb1
 have q1:=q0.below hb1
 have HB1:=Lh (HB0.out.trans (hb1.mono HB0.out.size))
 have HEQ:=Lh heq
 have HNM1:=Lh hnm
 have HIT1:=Lh hit
 clear hb1 p0 q0 heq hnm hit
 go_wp2_with (first| (refine lP rfl rfl rfl (by assumption) ?_)| (refine sP rfl rfl rfl rfl (by assumption) ?_)|fail)
 unfold Hid
 intro W2 p2 k2
 have q2:=k2.pb q1 (show w.heap.size+1≠w.heap.size by omega)
 have HB2:=Lh (k2.below HB1.out (Nat.le_refl _))
 try clear e0 e1 e2 e3 e4 e5 e6 e7 e8 e9 e10 e11 e12 e13 e14 e15
 try clear v0 v1 v2 v3 v4 v5 v6 v7 v8 v9 v10 v11 v12 v13 v14 v15
 obtain⟨e0,e1,e2,e3,e4,e5,e6,e7,e8,e9,e10,e11,e12,e13,e14,e15⟩:=p2.facts
 obtain⟨v0,v1,v2,v3,v4,v5,v6,v7,v8,v9,v10,v11,v12,v13,v14,v15⟩:=p2.free
 have NM2:=Lh (k2.nm p1 HNM1.out)
 have IT2:=Lh (k2.it p1 HIT1.out)
 clear p1 q1 k2
 go_wp2_with (first| (refine lP rfl rfl rfl (by assumption) ?_)| (refine sP rfl rfl rfl rfl (by assumption) ?_)|fail)
 unfold Hid
 intro W9 qe ke
 have hbe:=ke.below HB2.out (show w.heap.size≤w.heap.size+1 by omega)
 have hnm9:NmRow W9 (.slice ad6 n6 cap6) R.x.names:=ke.nm q2 NM2.out
 have hit9:ItRow W9 (.slice ad5 n5 cap5) R.x.ifs:=ke.it q2 IT2.out
 go_wp2
 exact bodyPost_ret (run_resP (by rfl) (by rfl) qe) rfl ⟨_,_,_,rfl,HEQ.out,hnm9,hit9,hbe⟩
end Go.Proofs.YthlofmnmacpogaaGreatDoor
