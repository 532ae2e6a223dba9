/- A part of a proof: 'warder/warderlaw07.DeclOnes' returns true for every input and leaves its arguments as they were; no condition. The row lists package-level variables of Go's library with what they hold at the start; the card ties them to the program's text. -/
import Derived.Test.YthlofmnmacpogaaGreatDoorOn42
import Derived.Test.YthlofmnmacpogaaGreatDoorOn43
import Derived.Test.YthlofmnmacpogaaGreatDoorOn26
import Derived.Test.YthlofmnmacpogaaGreatDoorOn09
import Derived.Test.YthlofmnmacpogaaGreatDoorOn41
namespace Go.Proofs.YthlofmnmacpogaaGreatDoor
open Go.RowKit
set_option maxRecDepth 100000 in
set_option maxHeartbeats 40000000 in
theorem rdevent_bad {w:World} {B:Nat} {lv:Value} {T:List Tk} (h:TkIn w B lv T) (hB:B≤w.heap.size) (r:RS) {nv iv:Value} (hnm:NmRow w nv r.x.names) (hit:ItRow w iv r.x.ifs) (hc:Clr T r) (hx0:r.x.names= []) (hv: (evR5 T r).er≠0) :
 Calls Tryz.prog 49 #[lv,pvV r nv iv] w (RdP w (evR7 T (evR6 T (evR5 T r)))):=by
 have hTl:T.length≤1000000:=by obtain⟨_,_,_,hl,_⟩:=h;exact hl
 have HNM:=Lib.hid hnm
 have HIT:=Lib.hid hit
 obtain⟨ad1,n1,cap1,rfl⟩:=hnm.sl
 obtain⟨ad2,n2,cap2,rfl⟩:=hit.sl
 have PE:=pent w r (.slice ad1 n1 cap1) (.slice ad2 n2 cap2)
 obtain⟨W0,hW0⟩:∃ W,((w.alloc (.cells #[.int .i64 r.x.kind,.string r.x.name,.int .i64 r.x.line,.int .i64 r.x.col,.int .i64 r.x.init,.slice ad1 n1 cap1,.string r.x.role,.string r.x.stage,.string r.x.event,.int .i64 r.x.times,.slice ad2 n2 cap2,.bool r.x.final,.int .i64 r.i,.int .i64 r.er,.int .i64 r.line,.int .i64 r.col] 62)).alloc (.cells #[.int .i64 0,.string ⟨#[]⟩,.int .i64 0,.int .i64 0,.int .i64 0,.slice none 0 0,.string ⟨#[]⟩,.string ⟨#[]⟩,.string ⟨#[]⟩,.int .i64 0,.slice none 0 0,.bool false,.int .i64 0,.int .i64 0,.int .i64 0,.int .i64 0] 62))=W:=⟨_,rfl⟩
 rw[hW0] at PE
 have p0:=PE.p
 have q0:=PE.q
 have HB0:=Lib.hid PE.lo
 have HTK:Hid (∀ W,Below w.heap.size w W→TkIn W B lv T):=fun W hW=>h.below (hW.mono hB)
 have HBB:=Lib.hid hB
 have HCL:=Lib.hid hc
 obtain⟨c0,c1,c2,c3,c4,c5,c6,c7,c8,c9,c10,c11,c12,c13,c14,c15⟩:=p0.facts
 obtain⟨y0,y1,y2,y3,y4,y5,y6,y7,y8,y9,y10,y11,y12,y13,y14,y15⟩:=p0.free
 clear h hB hnm hit PE hc
 have HX0:=Lib.hid hx0
 clear hx0
 rw[pv_is r]
 have c2':=HCL.out.need 2 wBy (by decide)
 obtain⟨r2,hr2⟩:∃ q,needD T 2 wBy r=q:=⟨_,rfl⟩
 have x2:r2.x=r.x:=by rw[←hr2];exact needD_x _ _ _ _
 rw[hr2] at c2'
 have c3':=c2'.name
 obtain⟨s2,hs2⟩:∃ q,nameV T r2=q:=⟨_,rfl⟩
 obtain⟨r2n,hr2n⟩:∃ q,nameD T r2=q:=⟨_,rfl⟩
 have x2n:r2n.x=r2.x:=by rw[←hr2n];exact takeD_x _ _ _
 rw[hr2n] at c3'
 obtain⟨r3,hr3⟩:∃ q,setRole s2 r2n=q:=⟨_,rfl⟩
 have c3:Clr T r3:=by rw[←hr3];exact c3'.role s2
 have c4:=c3.need 2 wIn (by decide)
 obtain⟨r4,hr4⟩:∃ q,needD T 2 wIn r3=q:=⟨_,rfl⟩
 have x4:r4.x=r3.x:=by rw[←hr4];exact needD_x _ _ _ _
 rw[hr4] at c4
 have c5':=c4.name
 obtain⟨s4,hs4⟩:∃ q,nameV T r4=q:=⟨_,rfl⟩
 obtain⟨r4n,hr4n⟩:∃ q,nameD T r4=q:=⟨_,rfl⟩
 have x4n:r4n.x=r4.x:=by rw[←hr4n];exact takeD_x _ _ _
 rw[hr4n] at c5'
 obtain⟨r5,hr5⟩:∃ q,setStage s4 r4n=q:=⟨_,rfl⟩
 have c5:Clr T r5:=by rw[←hr5];exact c5'.stage s4
 have HU5:Hid (evR5 T r=r5):=by unfold Hid evR5;dsimp only;rw[hr2,hs2,hr2n,hr3,hr4,hs4,hr4n,hr5]
 have HX5:Hid (r5.x.names=r.x.names∧r5.x.ifs=r.x.ifs):=by
  rw[←hr5];show Hid (r4n.x.names=_∧r4n.x.ifs=_)
  rw[x4n,x4,←hr3];show Hid (r2n.x.names=_∧r2n.x.ifs=_)
  rw[x2n,x2];exact⟨rfl,rfl⟩
 have M2:=fun W (hW:Below w.heap.size w W)=>rdmust_any (HTK.out W hW) (Nat.le_trans HBB.out hW.size) r (nv:=(.slice ad1 n1 cap1)) (iv:=(.slice ad2 n2 cap2)) ⟨_,_,_,rfl⟩ ⟨_,_,_,rfl⟩ 2 wBy (fun e=>(HCL.out e).1)
 have N2:=fun W (hW:Below w.heap.size w W)=>rdname_any (HTK.out W hW) (Nat.le_trans HBB.out hW.size) r2 (nv:=(.slice ad1 n1 cap1)) (iv:=(.slice ad2 n2 cap2)) ⟨_,_,_,rfl⟩ ⟨_,_,_,rfl⟩ (fun e=>(c2' e).1)
 have M4:=fun W (hW:Below w.heap.size w W)=>rdmust_any (HTK.out W hW) (Nat.le_trans HBB.out hW.size) r3 (nv:=(.slice ad1 n1 cap1)) (iv:=(.slice ad2 n2 cap2)) ⟨_,_,_,rfl⟩ ⟨_,_,_,rfl⟩ 2 wIn (fun e=>(c3 e).1)
 have N4:=fun W (hW:Below w.heap.size w W)=>rdname_any (HTK.out W hW) (Nat.le_trans HBB.out hW.size) r4 (nv:=(.slice ad1 n1 cap1)) (iv:=(.slice ad2 n2 cap2)) ⟨_,_,_,rfl⟩ ⟨_,_,_,rfl⟩ (fun e=>(c4 e).1)
 rw[hr2] at M2
 rw[hs2,hr2n] at N2
 rw[hr4] at M4
 rw[hs4,hr4n] at N4
 replace M2:=Lib.hid M2;replace N2:=Lib.hid N2;replace M4:=Lib.hid M4;replace N4:=Lib.hid N4
 have HR3:=Lib.hid hr3;have HR5:=Lib.hid hr5
 have CL5:=Lib.hid c5
 clear c2' hr2 x2 c3' hs2 hr2n x2n hr3 c3 c4 hr4 x4 c5' hs4 hr4n x4n hr5 c5
 obtain⟨F6,hF6⟩:∃ F,evR6 T r5=F:=⟨_,rfl⟩
 rw[HU5.out] at hv
 rw[HU5.out,hF6]
 replace hv:=Lib.hid hv
 replace hF6:=Lib.hid hF6
 go_enter Tryz.func49,Tryz.ntmps49
 go_wp2_with (first| (refine wpL_loadP rfl rfl rfl (by assumption) ?_)| (refine wpL_storeP rfl rfl rfl rfl (by assumption) ?_)|fail)
 refine(M2.out _ HB0.out).mono ?_
 rintro en w1 ⟨rfl,hb1⟩
 skip
 have pp1:=p0.below hb1
 have qq1:=q0.below hb1
 have HBB1:=Lib.hid (HB0.out.trans (hb1.mono HB0.out.size))
 clear hb1 p0 q0
 go_wp2_with (first| (refine wpL_loadP rfl rfl rfl (by assumption) ?_)| (refine wpL_storeP rfl rfl rfl rfl (by assumption) ?_)|fail)
 unfold Hid
 intro W1 p1 k1
 have q1:=k1.pb qq1 (show w.heap.size+1≠w.heap.size by omega)
 have HB1:=Lib.hid (k1.below HBB1.out (Nat.le_refl _))
 try clear e0 e1 e2 e3 e4 e5 e6 e7 e8 e9 e10 e11 e12 e13 e14 e15
 try clear v0 v1 v2 v3 v4 v5 v6 v7 v8 v9 v10 v11 v12 v13 v14 v15
 obtain⟨e0,e1,e2,e3,e4,e5,e6,e7,e8,e9,e10,e11,e12,e13,e14,e15⟩:=p1.facts
 obtain⟨v0,v1,v2,v3,v4,v5,v6,v7,v8,v9,v10,v11,v12,v13,v14,v15⟩:=p1.free
 clear pp1 qq1 k1
 go_wp2_with (first| (refine wpL_loadP rfl rfl rfl (by assumption) ?_)| (refine wpL_storeP rfl rfl rfl rfl (by assumption) ?_)|fail)
 refine(N2.out _ HB1.out).mono ?_
 rintro en w2 ⟨rfl,hb2⟩
 skip
 have pp2:=p1.below hb2
 have qq2:=q1.below hb2
 have HBB2:=Lib.hid (HB1.out.trans (hb2.mono HB1.out.size))
 clear hb2 p1 q1
 go_wp2_with (first| (refine wpL_loadP rfl rfl rfl (by assumption) ?_)| (refine wpL_storeP rfl rfl rfl rfl (by assumption) ?_)|fail)
 unfold Hid
 intro W2 p2 k2
 have q2:=k2.pb qq2 (show w.heap.size+1≠w.heap.size by omega)
 have HB2:=Lib.hid (k2.below HBB2.out (Nat.le_refl _))
 try clear e0 e1 e2 e3 e4 e5 e6 e7 e8 e9 e10 e11 e12 e13 e14 e15
 try clear v0 v1 v2 v3 v4 v5 v6 v7 v8 v9 v10 v11 v12 v13 v14 v15
 obtain⟨e0,e1,e2,e3,e4,e5,e6,e7,e8,e9,e10,e11,e12,e13,e14,e15⟩:=p2.facts
 obtain⟨v0,v1,v2,v3,v4,v5,v6,v7,v8,v9,v10,v11,v12,v13,v14,v15⟩:=p2.free
 clear pp2 qq2 k2
 obtain⟨W3,hW3⟩:∃ W,(W2.setCell ⟨w.heap.size,6,none⟩ (.string s2))=W:=⟨_,rfl⟩
 have p3:=p2.putRole s2
 have q3:=q2.over (show w.heap.size+1≠w.heap.size by omega) (.string s2) (j:=6)
 have hbW3:=HB2.out.setCell (p:=⟨w.heap.size,6,none⟩) (Nat.le_refl _) (.string s2)
 rw[hW3] at p3 q3 hbW3
 have HB3:=Lib.hid hbW3
 clear hbW3
 rw[HR3.out] at p3
 clear p2 q2
 go_wp2_with (first| (refine wpL_loadP rfl rfl rfl (by assumption) ?_)| (refine wpL_storeP rfl rfl rfl rfl (by assumption) ?_)|fail)
 refine(M4.out _ HB3.out).mono ?_
 rintro en w4 ⟨rfl,hb4⟩
 skip
 have pp4:=p3.below hb4
 have qq4:=q3.below hb4
 have HBB4:=Lib.hid (HB3.out.trans (hb4.mono HB3.out.size))
 clear hb4 p3 q3
 go_wp2_with (first| (refine wpL_loadP rfl rfl rfl (by assumption) ?_)| (refine wpL_storeP rfl rfl rfl rfl (by assumption) ?_)|fail)
 unfold Hid
 intro W4 p4 k4
 have q4:=k4.pb qq4 (show w.heap.size+1≠w.heap.size by omega)
 have HB4:=Lib.hid (k4.below HBB4.out (Nat.le_refl _))
 try clear e0 e1 e2 e3 e4 e5 e6 e7 e8 e9 e10 e11 e12 e13 e14 e15
 try clear v0 v1 v2 v3 v4 v5 v6 v7 v8 v9 v10 v11 v12 v13 v14 v15
 obtain⟨e0,e1,e2,e3,e4,e5,e6,e7,e8,e9,e10,e11,e12,e13,e14,e15⟩:=p4.facts
 obtain⟨v0,v1,v2,v3,v4,v5,v6,v7,v8,v9,v10,v11,v12,v13,v14,v15⟩:=p4.free
 clear pp4 qq4 k4
 go_wp2_with (first| (refine wpL_loadP rfl rfl rfl (by assumption) ?_)| (refine wpL_storeP rfl rfl rfl rfl (by assumption) ?_)|fail)
 refine(N4.out _ HB4.out).mono ?_
 rintro en w5 ⟨rfl,hb5⟩
 skip
 have pp5:=p4.below hb5
 have qq5:=q4.below hb5
 have HBB5:=Lib.hid (HB4.out.trans (hb5.mono HB4.out.size))
 clear hb5 p4 q4
 go_wp2_with (first| (refine wpL_loadP rfl rfl rfl (by assumption) ?_)| (refine wpL_storeP rfl rfl rfl rfl (by assumption) ?_)|fail)
 unfold Hid
 intro W5 p5 k5
 have q5:=k5.pb qq5 (show w.heap.size+1≠w.heap.size by omega)
 have HB5:=Lib.hid (k5.below HBB5.out (Nat.le_refl _))
 try clear e0 e1 e2 e3 e4 e5 e6 e7 e8 e9 e10 e11 e12 e13 e14 e15
 try clear v0 v1 v2 v3 v4 v5 v6 v7 v8 v9 v10 v11 v12 v13 v14 v15
 obtain⟨e0,e1,e2,e3,e4,e5,e6,e7,e8,e9,e10,e11,e12,e13,e14,e15⟩:=p5.facts
 obtain⟨v0,v1,v2,v3,v4,v5,v6,v7,v8,v9,v10,v11,v12,v13,v14,v15⟩:=p5.free
 clear pp5 qq5 k5
 obtain⟨W6,hW6⟩:∃ W,(W5.setCell ⟨w.heap.size,7,none⟩ (.string s4))=W:=⟨_,rfl⟩
 have p6:=p5.putStage s4
 have q6:=q5.over (show w.heap.size+1≠w.heap.size by omega) (.string s4) (j:=7)
 have hbW6:=HB5.out.setCell (p:=⟨w.heap.size,7,none⟩) (Nat.le_refl _) (.string s4)
 rw[hW6] at p6 q6 hbW6
 have HB6:=Lib.hid hbW6
 clear hbW6
 rw[HR5.out] at p6
 try clear g0 g1 g2 g3 g4 g5 g6 g7 g8 g9 g10 g11 g12 g13 g14 g15
 try clear u0 u1 u2 u3 u4 u5 u6 u7 u8 u9 u10 u11 u12 u13 u14 u15
 obtain⟨g0,g1,g2,g3,g4,g5,g6,g7,g8,g9,g10,g11,g12,g13,g14,g15⟩:=p6.facts
 obtain⟨u0,u1,u2,u3,u4,u5,u6,u7,u8,u9,u10,u11,u12,u13,u14,u15⟩:=p6.free
 clear p5 q5 M2 N2 M4 N4
 have HNM6:=Lib.hid (HNM.out.keep HB6.out)
 have HIT6:=Lib.hid (HIT.out.keep HB6.out)
 have he5:=hv.out
 · skip
   have heb: (r5.er == 0)=false:=beq_eq_false_iff_ne.2 he5
   have heb2: (r5.er !=0)=true:=by simpa using he5
   have HF:Hid (evR7 T F6=r5):=by
    have h6:F6=r5:=by rw[←hF6.out];unfold evR6;rw[if_neg (by rw[mayB_bad he5];decide)]
    unfold Hid evR7;rw[h6,if_neg (by rw[mayB_bad he5];decide)]
   clear he5 hF6
   go_wp2_with (first| (refine wpL_loadP rfl rfl rfl (by assumption) ?_)| (refine wpL_storeP rfl rfl rfl rfl (by assumption) ?_)|fail)
   unfold Hid
   intro W9 qe ke
   have hbe:=ke.below HB6.out (show w.heap.size≤w.heap.size+1 by omega)
   have hnm9:NmRow W9 (.slice ad1 n1 cap1) r5.x.names:=by rw[HX5.out.1];exact ke.nm q6 HNM6.out
   have hit9:ItRow W9 (.slice ad2 n2 cap2) r5.x.ifs:=by rw[HX5.out.2];exact ke.it q6 HIT6.out
   go_wp2
   exact bodyPost_ret (run_resP (by rfl) (by rfl) qe) rfl ⟨_,_,_,rfl,by rw[HF.out];exact EqR.refl _,hnm9,hit9,hbe⟩
theorem rdevent_any {w:World} {B:Nat} {lv:Value} {T:List Tk} (h:TkIn w B lv T) (hB:B≤w.heap.size) (r:RS) {nv iv:Value} (hnm:NmRow w nv r.x.names) (hit:ItRow w iv r.x.ifs) (hc:Clr T r) (hx0:r.x.names= []) :
 Calls Tryz.prog 49 #[lv,pvV r nv iv] w (RdP w (evR7 T (evR6 T (evR5 T r)))):=by
 by_cases he: (evR5 T r).er=0
 · cases hq:isTk T (evR5 T r).i 2 wSets
   · exact rdevent_no h hB r hnm hit hc hx0 ⟨he,hq⟩
   · exact rdevent_sets h hB r hnm hit hc hx0 ⟨he,hq⟩
 · exact rdevent_bad h hB r hnm hit hc hx0 he
end Go.Proofs.YthlofmnmacpogaaGreatDoor
namespace Go.Proofs.YthlofmnmacpogaaGreatDoor
open Go.RowKit
set_option maxRecDepth 100000 in
set_option maxHeartbeats 8000000 in
theorem rdnames_any {w:World} {B:Nat} {lv:Value} {T:List Tk} (h:TkIn w B lv T) (hB:B≤w.heap.size) (r:RS) {nv iv:Value} (hnm:NmRow w nv r.x.names) (hit:ItRow w iv r.x.ifs) (he:r.er=0) (hi:InD T r) (hx0:r.x.names= []) :
 Calls Tryz.prog 47 #[lv,pvV r nv iv,.bool false] w (RdP w (roleL T (T.length+1) (moreD T r))):=by
 have hTl:T.length≤1000000:=by obtain⟨_,_,_,hl,_⟩:=h;exact hl
 have HNM:=Lib.hid hnm
 have HIT:=Lib.hid hit
 obtain⟨ad1,n1,cap1,rfl⟩:=hnm.sl
 obtain⟨ad2,n2,cap2,rfl⟩:=hit.sl
 have PE:=pent w r (.slice ad1 n1 cap1) (.slice ad2 n2 cap2)
 obtain⟨W0,hW0⟩:∃ W,((w.alloc (.cells #[.int .i64 r.x.kind,.string r.x.name,.int .i64 r.x.line,.int .i64 r.x.col,.int .i64 r.x.init,.slice ad1 n1 cap1,.string r.x.role,.string r.x.stage,.string r.x.event,.int .i64 r.x.times,.slice ad2 n2 cap2,.bool r.x.final,.int .i64 r.i,.int .i64 r.er,.int .i64 r.line,.int .i64 r.col] 62)).alloc (.cells #[.int .i64 0,.string ⟨#[]⟩,.int .i64 0,.int .i64 0,.int .i64 0,.slice none 0 0,.string ⟨#[]⟩,.string ⟨#[]⟩,.string ⟨#[]⟩,.int .i64 0,.slice none 0 0,.bool false,.int .i64 0,.int .i64 0,.int .i64 0,.int .i64 0] 62))=W:=⟨_,rfl⟩
 rw[hW0] at PE
 have P0:=Lib.hid PE.p
 have Q0:=Lib.hid PE.q
 have HB0:=Lib.hid PE.lo
 have HTK:Hid (∀ W,Below w.heap.size w W→TkIn W B lv T):=fun W hW=>h.below (hW.mono hB)
 have HBB:=Lib.hid hB
 obtain⟨F,hF⟩:∃ F,roleL T (T.length+1) (moreD T r)=F:=⟨_,rfl⟩
 obtain⟨fl,hfl⟩:∃ fl,r.x.ifs=fl:=⟨_,rfl⟩
 have HFL:=Lib.hid hfl
 have HST:Hid (roleL T (T.length+1) (moreD T (setNames [] r))=F∧r.er=0∧r.x.names= []∧r.x.ifs=fl∧InD T r∧(T.length:Int) < r.i+ ((T.length+1:Nat):Int)∧(([]:List ByteArray).length:Int)≤r.i):=by
  refine⟨?_,he,hx0,hfl,hi,?_,?_⟩
  · rw[←hF,show setNames [] r=r by unfold setNames;rw[←hx0]]
  · have:=hi.1;omega
  · exact hi.1
 rw[hF]
 rw[pv_is r]
 obtain⟨i0,hi0,hz0,hz1,hz2⟩:=info_parts info_strD
 have HIP:=Lib.hid (And.intro hi0 (And.intro hz0 (And.intro hz1 hz2)))
 have HX0:=Lib.hid hx0
 clear h hB hnm hit he hi hx0 PE hF hfl hi0 hz0 hz1 hz2
 go_enter Tryz.func47,Tryz.ntmps47
 go_wp2_with fail
 go_loopw [7] (fun v7 wr=>∃ (k:Nat) (rr:RS) (all:List ByteArray),Hid (PB wr w.heap.size rr (.slice ad1 n1 cap1) (.slice ad2 n2 cap2)∧PB wr (w.heap.size+1) zeroR (.slice none 0 0) (.slice none 0 0)∧wr.ownsRow w.heap.size 9 1 v7 all.length (strV all)∧Below w.heap.size w wr∧(roleL T k (moreD T (setNames all rr))=F∧rr.er=0∧rr.x.names= []∧rr.x.ifs=fl∧InD T rr∧(T.length:Int) < rr.i+k∧(all.length:Int)≤rr.i))) (fun _ wr=>T.length+1 - posP wr w.heap.size)
 case atStart=>exact⟨T.length+1,r,[],P0.out,Q0.out,World.ownsRow_nil _ _ _ _,HB0.out,HST.out⟩
 case round=>
  obtain⟨k,rr,all,HALL⟩:=hrel
  clear P0 Q0 HB0 HST
  obtain⟨p0,q0,own0,hb0,hst,her,hxn,hxi,hin,hfu,hal0⟩:=HALL.out
  clear HALL
  obtain⟨ad7,cap7,rfl⟩:=owns_len own0
  have HPOS:=Lib.hid p0.pos
  have HST:=Lib.hid (And.intro hst (And.intro her (And.intro hxn (And.intro hxi (And.intro hin (And.intro hfu hal0))))))
  have HO0:=Lib.hid own0
  have HB0:=Lib.hid hb0
  have hNL:all.length≤1000000:=by have:=hin.2;omega
  have HN:=Lib.hid (rdname_any (HTK.out _ hb0) (Nat.le_trans HBB.out hb0.size) rr (nv:=(.slice ad1 n1 cap1)) (iv:=(.slice ad2 n2 cap2)) ⟨_,_,_,rfl⟩ ⟨_,_,_,rfl⟩ (fun _=>hin))
  obtain⟨R,hR⟩:∃ R,nameD T rr=R:=⟨_,rfl⟩
  obtain⟨s,hs⟩:∃ s,nameV T rr=s:=⟨_,rfl⟩
  have HMS:Hid (roleL T k (setNames (all ++ [s]) R)=F):=by
   unfold Hid;rw[←hst,more_set,hR,hs]
  have HRX:Hid (R.x.names= []∧R.x.ifs=fl):=by
   have:R.x=rr.x:=by rw[←hR];exact takeD_x T 1 rr
   exact⟨by rw[this];exact hxn,by rw[this];exact hxi⟩
  have HNX:Hid (R.er=0→(tkAt T rr.i).kind=1∧R= { rr with i:=rr.i+1 }):=by
   unfold Hid;intro h;rw[←hR] at h ⊢;exact name_next her h
  have HRI:Hid (R.er=0→InD T R):=by unfold Hid;rw[←hR];exact fun _=>hin.take 1 (by decide)
  rw[hR,hs] at HN
  clear hR hs hst her hxn hxi hin hfu hal0 own0 hb0
  go_wp2_with (first| (refine wpL_loadP rfl rfl rfl (by assumption) ?_)| (refine wpL_storeP rfl rfl rfl rfl (by assumption) ?_)|fail)
  refine HN.out.mono ?_
  rintro en w1 ⟨rfl,hb1⟩
  have hal:=(Below.refl w1.heap.size w1).alloc (Nat.le_refl _) (.cells #[.int .i64 0,.string ⟨#[]⟩,.int .i64 0,.int .i64 0,.int .i64 0,.slice none 0 0,.string ⟨#[]⟩,.string ⟨#[]⟩,.string ⟨#[]⟩,.int .i64 0,.slice none 0 0,.bool false,.int .i64 0,.int .i64 0,.int .i64 0,.int .i64 0] 62)
  have p1:=(p0.below hb1).below hal
  have q1:=(q0.below hb1).below hal
  have z1:PB (w1.alloc (.cells #[.int .i64 0,.string ⟨#[]⟩,.int .i64 0,.int .i64 0,.int .i64 0,.slice none 0 0,.string ⟨#[]⟩,.string ⟨#[]⟩,.string ⟨#[]⟩,.int .i64 0,.slice none 0 0,.bool false,.int .i64 0,.int .i64 0,.int .i64 0,.int .i64 0] 62)) w1.heap.size zeroR (.slice none 0 0) (.slice none 0 0):=heap_alloc_new w1 _
  have HO1:=Lib.hid (owns_below (owns_below HO0.out hb1) hal)
  have HB1:=Lib.hid ((HB0.out.trans (hb1.mono HB0.out.size)).trans (hal.mono (Nat.le_trans HB0.out.size hb1.size)))
  obtain⟨W1,hW1⟩:∃ W,(w1.alloc (.cells #[.int .i64 0,.string ⟨#[]⟩,.int .i64 0,.int .i64 0,.int .i64 0,.slice none 0 0,.string ⟨#[]⟩,.string ⟨#[]⟩,.string ⟨#[]⟩,.int .i64 0,.slice none 0 0,.bool false,.int .i64 0,.int .i64 0,.int .i64 0,.int .i64 0] 62))=W:=⟨_,rfl⟩
  have hlt0:w.heap.size+1 < w1.heap.size:=Nat.lt_of_lt_of_le q0.lt hb1.size
  rw[hW1] at p1 q1 z1 HO1 HB1
  clear hb1 hal p0 q0
  go_wp2_with (first| (refine wpL_loadP rfl rfl rfl (by assumption) ?_)| (refine wpL_storeP rfl rfl rfl rfl (by assumption) ?_)|fail)
  unfold Hid
  intro W2 z2 k2
  have p2:=k2.pb p1 (show w.heap.size≠w1.heap.size by omega)
  have q2:=k2.pb q1 (show w.heap.size+1≠w1.heap.size by omega)
  have HB2:=Lib.hid (k2.below HB1.out (show w.heap.size≤w1.heap.size by omega))
  have HO2:=Lib.hid (k2.own z1 (by decide) HO1.out)
  obtain⟨c0,c1,c2,c3,c4,c5,c6,c7,c8,c9,c10,c11,c12,c13,c14,c15⟩:=z2.facts
  have HZ2:=Lib.hid z2
  clear p1 q1 z1 k2 HO1 HO0 HN
  by_cases hre:R.er=0
  · have hrb: (R.er !=0)=false:=by simpa using hre
    have HRE:=Lib.hid hre
    have hlt2:=z2.lt
    have hal:=(Below.refl W2.heap.size W2).alloc (Nat.le_refl _) (.cells #[.string s] 9)
    clear hre
    go_wp2_with (at_builtin;refine app1 W2 #[.string s] rfl _ _ 34 rfl w.heap.size 9 _ 1 16 Tryz.underlying34 info_strD rfl (by decide) (by decide) _ _ _ rfl (by exact HO2.out) rfl (by simp) rfl (by simp[Value.oneCell']) (by omega) HB2.out.size ?_)
    intro v8 w3 own3 grow3 hb3
    obtain⟨ad8,cap8,rfl⟩:=owns_len own3
    have p3:=p2.grown grow3 (own_ne HO2.out p2 (by decide))
    have q3:=q2.grown grow3 (own_ne HO2.out q2 (by decide))
    have z3:=z2.grown grow3 (own_ne HO2.out z2 (by decide))
    have HO3:Hid (w3.ownsRow w.heap.size 9 1 (.slice ad8 (all.length+1) cap8) (all ++ [s]).length (strV (all ++ [s]))):=by
     unfold Hid;rw[strV_snoc,List.length_append,List.length_singleton];exact own3
    have HB3:=Lib.hid (HB2.out.trans hb3)
    clear own3 grow3 hb3 p2 q2 z2 HZ2 HO2 hal
    go_wp2_with (first| (refine wpL_loadP rfl rfl rfl (by assumption) ?_)| (refine wpL_storeP rfl rfl rfl rfl (by assumption) ?_)|fail)
    unfold Hid
    intro W4 p4 k4
    have q4:=k4.pb q3 (show w.heap.size+1≠w.heap.size by omega)
    have HB4:=Lib.hid (k4.below HB3.out (Nat.le_refl _))
    obtain⟨f0,f1,f2,f3,f4,f5,f6,f7,f8,f9,f10,f11,f12,f13,f14,f15⟩:=p4.facts
    obtain⟨g0,g1,g2,g3,g4,g5,g6,g7,g8,g9,g10,g11,g12,g13,g14,g15⟩:=p4.free
    have HO4:=Lib.hid (k4.own p3 (by decide) HO3.out)
    clear k4 p3 q3 z3 HO3
    have HPOS4:=Lib.hid p4.pos
    have HP4:=Lib.hid p4
    have HQ4:=Lib.hid q4
    obtain⟨k,rfl⟩:∃ q,k=q+1:=⟨k - 1,by have:=HST.out.2.2.2.2.1.2;have:=HST.out.2.2.2.2.2.1;omega⟩
    have HT:=Lib.hid (rdtok_any (HTK.out _ HB4.out) R.i)
    obtain⟨x,hx⟩:∃ x,tkAt T R.i=x:=⟨_,rfl⟩
    have HX:=Lib.hid hx
    obtain⟨hf0,hf1⟩:=tk_fields x
    clear hx
    go_wp2_with (first| (refine wpL_loadP rfl rfl rfl (by assumption) ?_)| (refine wpL_storeP rfl rfl rfl rfl (by assumption) ?_)|fail)
    refine HT.out.mono ?_
    rintro en w5 ⟨rfl,hb5⟩
    rw[HX.out]
    unfold tokV
    have p5:=HP4.out.below hb5
    have q5:=HQ4.out.below hb5
    have HO5:=Lib.hid (owns_below HO4.out hb5)
    have HB5:=Lib.hid (HB4.out.trans (hb5.mono HB4.out.size))
    clear hb5 p4 q4 HT
    by_cases hk:x.kind=1
    · have hkb: (x.kind !=1)=false:=by simpa using hk
      have HKB:Hid (kindB T 1 (setNames (all ++ [s]) R)=true):=by
       unfold Hid;show kindB T 1 R=true
       unfold kindB;rw[HX.out,decide_eq_true hk,decide_eq_true HRE.out];rfl
      have HP5:=Lib.hid p5;have HQ5:=Lib.hid q5
      have HPOS5:=Lib.hid p5.pos
      clear hk p5 q5
      go_wp2_with (first| (refine wpL_loadP rfl rfl rfl (by assumption) ?_)| (refine wpL_storeP rfl rfl rfl rfl (by assumption) ?_)|fail)
      go_roundw
      case rel=>
       refine⟨k,R,all ++ [s],HP5.out,HQ5.out,HO5.out,HB5.out,?_,HRE.out,HRX.out.1,HRX.out.2,HRI.out HRE.out,?_,?_⟩
       · have:=HMS.out
         rw[roleL,if_pos HKB.out] at this
         exact this
       · have:=(HNX.out HRE.out).2
         have h2:R.i=rr.i+1:=by rw[this]
         have:=HST.out.2.2.2.2.2.1
         omega
       · have:=(HNX.out HRE.out).2
         have h2:R.i=rr.i+1:=by rw[this]
         have:=HST.out.2.2.2.2.2.2
         rw[List.length_append,List.length_singleton]
         omega
      case measure=>
       rw[HPOS.out,HPOS5.out]
       have:=(HNX.out HRE.out).2
       have h2:R.i=rr.i+1:=by rw[this]
       have h3:=HST.out.2.2.2.2.1
       have h4:=h3.1
       have h5:=h3.2
       omega
    · have hkb: (x.kind !=1)=true:=by simpa using hk
      have HFF:Hid (F=setNames (all ++ [s]) R):=by
       unfold Hid
       rw[←HMS.out,roleL,if_neg (show ¬kindB T 1 (setNames (all ++ [s]) R)=true by
        show ¬kindB T 1 R=true
        unfold kindB;rw[HX.out,decide_eq_false hk,Bool.false_and];decide)]
      clear hk
      obtain⟨a0,a1,a2,a3,a4,a5,a6,a7,a8,a9,a10,a11,a12,a13,a14,a15⟩:=p5.facts
      obtain⟨b0,b1,b2,b3,b4,b5,b6,b7,b8,b9,b10,b11,b12,b13,b14,b15⟩:=p5.free
      obtain⟨W7,hW7⟩:∃ W,(w5.setCell ⟨w.heap.size,5,none⟩ (.slice ad8 (all.length+1) cap8))=W:=⟨_,rfl⟩
      have p7:=p5.putNv (all ++ [s]) (.slice ad8 (all.length+1) cap8)
      have q7:=q5.over (show w.heap.size+1≠w.heap.size by omega) (.slice ad8 (all.length+1) cap8) (j:=5)
      have hbW7:=HB5.out.setCell (p:=⟨w.heap.size,5,none⟩) (Nat.le_refl _) (.slice ad8 (all.length+1) cap8)
      rw[hW7] at p7 q7 hbW7
      have HB7:=Lib.hid hbW7
      clear hbW7
      have own7:=(KeptP.cell w5 w.heap.size 5 (.slice ad8 (all.length+1) cap8)).own p5 (by decide) HO5.out
      rw[hW7] at own7
      have HO7:=Lib.hid own7
      clear own7 p5 q5
      go_wp2_with (first| (refine wpL_loadP rfl rfl rfl (by assumption) ?_)| (refine wpL_storeP rfl rfl rfl rfl (by assumption) ?_)|fail)
      unfold Hid
      intro W9 qe ke
      have hbe:=ke.below HB7.out (show w.heap.size≤w.heap.size+1 by omega)
      have hnm:NmRow W9 _ _:=ke.nm q7 ⟨_,HO7.out⟩
      have hit:=(HIT.out.keep hbe)
      rw[HFL.out,←HRX.out.2] at hit
      go_wp2
      exact bodyPost_ret (run_resP (by rfl) (by rfl) qe) rfl ⟨_,_,_,rfl,by rw[HFF.out];exact EqR.refl _,hnm,hit,hbe⟩
  · have hrb: (R.er !=0)=true:=by simpa using hre
    have HU:Hid (EqR R F):=by
     unfold Hid
     rw[←HMS.out,roleL_bad T k (show(setNames (all ++ [s]) R).er≠0 from hre)]
     exact⟨rfl,rfl,rfl,fun h=>absurd h hre⟩
    clear hre p2
    go_wp2_with (first| (refine wpL_loadP rfl rfl rfl (by assumption) ?_)| (refine wpL_storeP rfl rfl rfl rfl (by assumption) ?_)|fail)
    unfold Hid
    intro W9 qe ke
    have hbe:=ke.below HB2.out (show w.heap.size≤w.heap.size+1 by omega)
    have hnm:=(HNM.out.keep hbe)
    have hit:=(HIT.out.keep hbe)
    rw[HFL.out,←HRX.out.2] at hit
    go_wp2
    exact bodyPost_ret (run_resP (by rfl) (by rfl) qe) rfl ⟨_,_,_,rfl,HU.out,by rw[HRX.out.1,←HX0.out];exact hnm,hit,hbe⟩
end Go.Proofs.YthlofmnmacpogaaGreatDoor
namespace Go.Proofs.YthlofmnmacpogaaGreatDoor
open Go.RowKit
set_option maxRecDepth 100000 in
set_option maxHeartbeats 40000000 in
theorem rdrest_user {w:World} {B:Nat} {lv:Value} {T:List Tk} (h:TkIn w B lv T) (hB:B≤w.heap.size) (r:RS) {nv iv:Value} (hnm:NmRow w nv r.x.names) (hit:ItRow w iv r.x.ifs) (hc:Clr T r) (hk:r.x.kind=2) (he:r.er=0) (hx0:r.x.names= []) :
 Calls Tryz.prog 27 #[lv,pvV r nv iv] w (RdP w (r)):=by
 have hTl:T.length≤1000000:=by obtain⟨_,_,_,hl,_⟩:=h;exact hl
 have HNM:=Lib.hid hnm
 have HIT:=Lib.hid hit
 obtain⟨ad1,n1,cap1,rfl⟩:=hnm.sl
 obtain⟨ad2,n2,cap2,rfl⟩:=hit.sl
 have PE:=pent w r (.slice ad1 n1 cap1) (.slice ad2 n2 cap2)
 obtain⟨W0,hW0⟩:∃ W,((w.alloc (.cells #[.int .i64 r.x.kind,.string r.x.name,.int .i64 r.x.line,.int .i64 r.x.col,.int .i64 r.x.init,.slice ad1 n1 cap1,.string r.x.role,.string r.x.stage,.string r.x.event,.int .i64 r.x.times,.slice ad2 n2 cap2,.bool r.x.final,.int .i64 r.i,.int .i64 r.er,.int .i64 r.line,.int .i64 r.col] 62)).alloc (.cells #[.int .i64 0,.string ⟨#[]⟩,.int .i64 0,.int .i64 0,.int .i64 0,.slice none 0 0,.string ⟨#[]⟩,.string ⟨#[]⟩,.string ⟨#[]⟩,.int .i64 0,.slice none 0 0,.bool false,.int .i64 0,.int .i64 0,.int .i64 0,.int .i64 0] 62))=W:=⟨_,rfl⟩
 rw[hW0] at PE
 have p0:=PE.p
 have q0:=PE.q
 have HB0:=Lib.hid PE.lo
 have HTK:Hid (∀ W,Below w.heap.size w W→TkIn W B lv T):=fun W hW=>h.below (hW.mono hB)
 have HBB:=Lib.hid hB
 have HCL:=Lib.hid hc
 obtain⟨c0,c1,c2,c3,c4,c5,c6,c7,c8,c9,c10,c11,c12,c13,c14,c15⟩:=p0.facts
 obtain⟨y0,y1,y2,y3,y4,y5,y6,y7,y8,y9,y10,y11,y12,y13,y14,y15⟩:=p0.free
 clear h hB hnm hit PE hc
 have hk1: (r.x.kind == 1)=false:=by rw[hk];rfl
 have hk3: (r.x.kind == 3)=false:=by rw[hk];rfl
 have hk4: (r.x.kind == 4)=false:=by rw[hk];rfl
 have hk5: (r.x.kind == 5)=false:=by rw[hk];rfl
 have hk6: (r.x.kind == 6)=false:=by rw[hk];rfl
 have hk7: (r.x.kind == 7)=false:=by rw[hk];rfl
 have HE0:=Lib.hid he
 have HX0:=Lib.hid hx0
 clear hk he hx0
 rw[pv_is r]
 clear HTK HBB HCL HE0 HX0
 go_enter Tryz.func27,Tryz.ntmps27
 go_wp2_with (first| (refine wpL_loadP rfl rfl rfl (by assumption) ?_)| (refine wpL_storeP rfl rfl rfl rfl (by assumption) ?_)|fail)
 unfold Hid
 intro W9 qe ke
 have hbe:=ke.below HB0.out (show w.heap.size≤w.heap.size+1 by omega)
 have hnm9:NmRow W9 (.slice ad1 n1 cap1) r.x.names:=HNM.out.keep hbe
 have hit9:ItRow W9 (.slice ad2 n2 cap2) r.x.ifs:=HIT.out.keep hbe
 go_wp2
 exact bodyPost_ret (run_resP (by rfl) (by rfl) qe) rfl ⟨_,_,_,rfl,EqR.refl _,hnm9,hit9,hbe⟩
set_option maxRecDepth 100000 in
set_option maxHeartbeats 40000000 in
theorem rdrest_event {w:World} {B:Nat} {lv:Value} {T:List Tk} (h:TkIn w B lv T) (hB:B≤w.heap.size) (r:RS) {nv iv:Value} (hnm:NmRow w nv r.x.names) (hit:ItRow w iv r.x.ifs) (hc:Clr T r) (hk:r.x.kind=5) (he:r.er=0) (hx0:r.x.names= []) :
 Calls Tryz.prog 27 #[lv,pvV r nv iv] w (RdP w (evR T r)):=by
 have hTl:T.length≤1000000:=by obtain⟨_,_,_,hl,_⟩:=h;exact hl
 have HNM:=Lib.hid hnm
 have HIT:=Lib.hid hit
 obtain⟨ad1,n1,cap1,rfl⟩:=hnm.sl
 obtain⟨ad2,n2,cap2,rfl⟩:=hit.sl
 have PE:=pent w r (.slice ad1 n1 cap1) (.slice ad2 n2 cap2)
 obtain⟨W0,hW0⟩:∃ W,((w.alloc (.cells #[.int .i64 r.x.kind,.string r.x.name,.int .i64 r.x.line,.int .i64 r.x.col,.int .i64 r.x.init,.slice ad1 n1 cap1,.string r.x.role,.string r.x.stage,.string r.x.event,.int .i64 r.x.times,.slice ad2 n2 cap2,.bool r.x.final,.int .i64 r.i,.int .i64 r.er,.int .i64 r.line,.int .i64 r.col] 62)).alloc (.cells #[.int .i64 0,.string ⟨#[]⟩,.int .i64 0,.int .i64 0,.int .i64 0,.slice none 0 0,.string ⟨#[]⟩,.string ⟨#[]⟩,.string ⟨#[]⟩,.int .i64 0,.slice none 0 0,.bool false,.int .i64 0,.int .i64 0,.int .i64 0,.int .i64 0] 62))=W:=⟨_,rfl⟩
 rw[hW0] at PE
 have p0:=PE.p
 have q0:=PE.q
 have HB0:=Lib.hid PE.lo
 have HTK:Hid (∀ W,Below w.heap.size w W→TkIn W B lv T):=fun W hW=>h.below (hW.mono hB)
 have HBB:=Lib.hid hB
 have HCL:=Lib.hid hc
 obtain⟨c0,c1,c2,c3,c4,c5,c6,c7,c8,c9,c10,c11,c12,c13,c14,c15⟩:=p0.facts
 obtain⟨y0,y1,y2,y3,y4,y5,y6,y7,y8,y9,y10,y11,y12,y13,y14,y15⟩:=p0.free
 clear h hB hnm hit PE hc
 have hk1: (r.x.kind == 1)=false:=by rw[hk];rfl
 have hk3: (r.x.kind == 3)=false:=by rw[hk];rfl
 have hk4: (r.x.kind == 4)=false:=by rw[hk];rfl
 have hk5: (r.x.kind == 5)=true:=by rw[hk];rfl
 have hk6: (r.x.kind == 6)=false:=by rw[hk];rfl
 have hk7: (r.x.kind == 7)=false:=by rw[hk];rfl
 have HE0:=Lib.hid he
 have HX0:=Lib.hid hx0
 clear hk he hx0
 rw[pv_is r]
 go_enter Tryz.func27,Tryz.ntmps27
 go_wp2_with (first| (refine wpL_loadP rfl rfl rfl (by assumption) ?_)| (refine wpL_storeP rfl rfl rfl rfl (by assumption) ?_)|fail)
 rw[←pv_is r]
 refine(rdevent_any (HTK.out _ HB0.out) (Nat.le_trans HBB.out HB0.out.size) r (HNM.out.keep HB0.out) (HIT.out.keep HB0.out) HCL.out HX0.out).mono ?_
 rintro en w1 ⟨R,nv1,iv1,rfl,heq,hnm,hit,hb1⟩
 obtain⟨ad6,n6,cap6,rfl⟩:=hnm.sl
 obtain⟨ad5,n5,cap5,rfl⟩:=hit.sl
 have p1:=p0.below hb1
 have q1:=q0.below hb1
 have HB1:=Lib.hid (HB0.out.trans (hb1.mono HB0.out.size))
 have HEQ:=Lib.hid heq
 have HNM1:=Lib.hid hnm
 have HIT1:=Lib.hid hit
 clear hb1 p0 q0 heq hnm hit
 go_wp2_with (first| (refine wpL_loadP rfl rfl rfl (by assumption) ?_)| (refine wpL_storeP rfl rfl rfl rfl (by assumption) ?_)|fail)
 unfold Hid
 intro W2 p2 k2
 have q2:=k2.pb q1 (show w.heap.size+1≠w.heap.size by omega)
 have HB2:=Lib.hid (k2.below HB1.out (Nat.le_refl _))
 try clear e0 e1 e2 e3 e4 e5 e6 e7 e8 e9 e10 e11 e12 e13 e14 e15
 try clear v0 v1 v2 v3 v4 v5 v6 v7 v8 v9 v10 v11 v12 v13 v14 v15
 obtain⟨e0,e1,e2,e3,e4,e5,e6,e7,e8,e9,e10,e11,e12,e13,e14,e15⟩:=p2.facts
 obtain⟨v0,v1,v2,v3,v4,v5,v6,v7,v8,v9,v10,v11,v12,v13,v14,v15⟩:=p2.free
 have NM2:=Lib.hid (k2.nm p1 HNM1.out)
 have IT2:=Lib.hid (k2.it p1 HIT1.out)
 clear p1 q1 k2
 go_wp2_with (first| (refine wpL_loadP rfl rfl rfl (by assumption) ?_)| (refine wpL_storeP rfl rfl rfl rfl (by assumption) ?_)|fail)
 unfold Hid
 intro W9 qe ke
 have hbe:=ke.below HB2.out (show w.heap.size≤w.heap.size+1 by omega)
 have hnm9:NmRow W9 (.slice ad6 n6 cap6) R.x.names:=ke.nm q2 NM2.out
 have hit9:ItRow W9 (.slice ad5 n5 cap5) R.x.ifs:=ke.it q2 IT2.out
 go_wp2
 exact bodyPost_ret (run_resP (by rfl) (by rfl) qe) rfl ⟨_,_,_,rfl,HEQ.out,hnm9,hit9,hbe⟩
set_option maxRecDepth 100000 in
set_option maxHeartbeats 40000000 in
theorem rdrest_guard {w:World} {B:Nat} {lv:Value} {T:List Tk} (h:TkIn w B lv T) (hB:B≤w.heap.size) (r:RS) {nv iv:Value} (hnm:NmRow w nv r.x.names) (hit:ItRow w iv r.x.ifs) (hc:Clr T r) (hk:r.x.kind=6) (he:r.er=0) (hx0:r.x.names= []) :
 Calls Tryz.prog 27 #[lv,pvV r nv iv] w (RdP w (sentryD T r)):=by
 have hTl:T.length≤1000000:=by obtain⟨_,_,_,hl,_⟩:=h;exact hl
 have HNM:=Lib.hid hnm
 have HIT:=Lib.hid hit
 obtain⟨ad1,n1,cap1,rfl⟩:=hnm.sl
 obtain⟨ad2,n2,cap2,rfl⟩:=hit.sl
 have PE:=pent w r (.slice ad1 n1 cap1) (.slice ad2 n2 cap2)
 obtain⟨W0,hW0⟩:∃ W,((w.alloc (.cells #[.int .i64 r.x.kind,.string r.x.name,.int .i64 r.x.line,.int .i64 r.x.col,.int .i64 r.x.init,.slice ad1 n1 cap1,.string r.x.role,.string r.x.stage,.string r.x.event,.int .i64 r.x.times,.slice ad2 n2 cap2,.bool r.x.final,.int .i64 r.i,.int .i64 r.er,.int .i64 r.line,.int .i64 r.col] 62)).alloc (.cells #[.int .i64 0,.string ⟨#[]⟩,.int .i64 0,.int .i64 0,.int .i64 0,.slice none 0 0,.string ⟨#[]⟩,.string ⟨#[]⟩,.string ⟨#[]⟩,.int .i64 0,.slice none 0 0,.bool false,.int .i64 0,.int .i64 0,.int .i64 0,.int .i64 0] 62))=W:=⟨_,rfl⟩
 rw[hW0] at PE
 have p0:=PE.p
 have q0:=PE.q
 have HB0:=Lib.hid PE.lo
 have HTK:Hid (∀ W,Below w.heap.size w W→TkIn W B lv T):=fun W hW=>h.below (hW.mono hB)
 have HBB:=Lib.hid hB
 have HCL:=Lib.hid hc
 obtain⟨c0,c1,c2,c3,c4,c5,c6,c7,c8,c9,c10,c11,c12,c13,c14,c15⟩:=p0.facts
 obtain⟨y0,y1,y2,y3,y4,y5,y6,y7,y8,y9,y10,y11,y12,y13,y14,y15⟩:=p0.free
 clear h hB hnm hit PE hc
 have hk1: (r.x.kind == 1)=false:=by rw[hk];rfl
 have hk3: (r.x.kind == 3)=false:=by rw[hk];rfl
 have hk4: (r.x.kind == 4)=false:=by rw[hk];rfl
 have hk5: (r.x.kind == 5)=false:=by rw[hk];rfl
 have hk6: (r.x.kind == 6)=true:=by rw[hk];rfl
 have hk7: (r.x.kind == 7)=false:=by rw[hk];rfl
 have HE0:=Lib.hid he
 have HX0:=Lib.hid hx0
 clear hk he hx0
 rw[pv_is r]
 go_enter Tryz.func27,Tryz.ntmps27
 go_wp2_with (first| (refine wpL_loadP rfl rfl rfl (by assumption) ?_)| (refine wpL_storeP rfl rfl rfl rfl (by assumption) ?_)|fail)
 rw[←pv_is r]
 refine(rdsentry_any (HTK.out _ HB0.out) (Nat.le_trans HBB.out HB0.out.size) r (HNM.out.keep HB0.out) (HIT.out.keep HB0.out) HCL.out).mono ?_
 rintro en w1 ⟨R,nv1,iv1,rfl,heq,hnm,hit,hb1⟩
 obtain⟨ad6,n6,cap6,rfl⟩:=hnm.sl
 obtain⟨ad5,n5,cap5,rfl⟩:=hit.sl
 have p1:=p0.below hb1
 have q1:=q0.below hb1
 have HB1:=Lib.hid (HB0.out.trans (hb1.mono HB0.out.size))
 have HEQ:=Lib.hid heq
 have HNM1:=Lib.hid hnm
 have HIT1:=Lib.hid hit
 clear hb1 p0 q0 heq hnm hit
 go_wp2_with (first| (refine wpL_loadP rfl rfl rfl (by assumption) ?_)| (refine wpL_storeP rfl rfl rfl rfl (by assumption) ?_)|fail)
 unfold Hid
 intro W2 p2 k2
 have q2:=k2.pb q1 (show w.heap.size+1≠w.heap.size by omega)
 have HB2:=Lib.hid (k2.below HB1.out (Nat.le_refl _))
 try clear e0 e1 e2 e3 e4 e5 e6 e7 e8 e9 e10 e11 e12 e13 e14 e15
 try clear v0 v1 v2 v3 v4 v5 v6 v7 v8 v9 v10 v11 v12 v13 v14 v15
 obtain⟨e0,e1,e2,e3,e4,e5,e6,e7,e8,e9,e10,e11,e12,e13,e14,e15⟩:=p2.facts
 obtain⟨v0,v1,v2,v3,v4,v5,v6,v7,v8,v9,v10,v11,v12,v13,v14,v15⟩:=p2.free
 have NM2:=Lib.hid (k2.nm p1 HNM1.out)
 have IT2:=Lib.hid (k2.it p1 HIT1.out)
 clear p1 q1 k2
 go_wp2_with (first| (refine wpL_loadP rfl rfl rfl (by assumption) ?_)| (refine wpL_storeP rfl rfl rfl rfl (by assumption) ?_)|fail)
 unfold Hid
 intro W9 qe ke
 have hbe:=ke.below HB2.out (show w.heap.size≤w.heap.size+1 by omega)
 have hnm9:NmRow W9 (.slice ad6 n6 cap6) R.x.names:=ke.nm q2 NM2.out
 have hit9:ItRow W9 (.slice ad5 n5 cap5) R.x.ifs:=ke.it q2 IT2.out
 go_wp2
 exact bodyPost_ret (run_resP (by rfl) (by rfl) qe) rfl ⟨_,_,_,rfl,HEQ.out,hnm9,hit9,hbe⟩
end Go.Proofs.YthlofmnmacpogaaGreatDoor
