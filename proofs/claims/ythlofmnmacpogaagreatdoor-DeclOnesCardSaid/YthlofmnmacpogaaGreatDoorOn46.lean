/- A part of a proof: 'warder/warderlaw07.DeclOnes' returns true for every input and leaves its arguments as they were; no condition. The row lists package-level variables of Go's library with what they hold at the start; the card ties them to the program's text. -/
import Derived.Test.YthlofmnmacpogaaGreatDoorOn41
import Derived.Test.YthlofmnmacpogaaGreatDoorOn40
import Derived.Test.YthlofmnmacpogaaGreatDoorOn44
import Derived.Test.YthlofmnmacpogaaGreatDoorOn45
import Derived.Test.YthlofmnmacpogaaGreatDoorOn15
import Derived.Test.YthlofmnmacpogaaGreatDoorOn12
namespace Go.Proofs.YthlofmnmacpogaaGreatDoor
open Go.RowKit
set_option maxRecDepth 100000 in
set_option maxHeartbeats 40000000 in
theorem rdrest_mile {w:World} {B:Nat} {lv:Value} {T:List Tk} (h:TkIn w B lv T) (hB:B≤w.heap.size) (r:RS) {nv iv:Value} (hnm:NmRow w nv r.x.names) (hit:ItRow w iv r.x.ifs) (hc:Clr T r) (hk:r.x.kind=7) (he:r.er=0) (hx0:r.x.names= []) (hfin:r.x.final=false) :
 Calls Tryz.prog 27 #[lv,pvV r nv iv] w (RdP w (miR T r)):=by
 have hTl:T.length≤1000000:=by obtain⟨_,_,_,hl,_⟩:=h;exact hl
 have HNM:=Lib.hid hnm
 have HIT:=Lib.hid hit
 obtain⟨ad1,n1,cap1,rfl⟩:=hnm.sl
 obtain⟨ad2,n2,cap2,rfl⟩:=hit.sl
 have PE:=pent w r (.slice ad1 n1 cap1) (.slice ad2 n2 cap2)
 obtain⟨W0,hW0⟩:∃ W,((w.alloc (.cells #[.int .i64 r.x.kind,.string r.x.name,.int .i64 r.x.line,.int .i64 r.x.col,.int .i64 r.x.init,.slice ad1 n1 cap1,.string r.x.role,.string r.x.stage,.string r.x.event,.int .i64 r.x.times,.slice ad2 n2 cap2,.bool r.x.final,.int .i64 r.i,.int .i64 r.er,.int .i64 r.line,.int .i64 r.col] 62)).alloc (.cells #[.int .i64 0,.string ⟨#[]⟩,.int .i64 0,.int .i64 0,.int .i64 0,.slice none 0 0,.string ⟨#[]⟩,.string ⟨#[]⟩,.string ⟨#[]⟩,.int .i64 0,.slice none 0 0,.bool false,.int .i64 0,.int .i64 0,.int .i64 0,.int .i64 0] 62))=W:=⟨_,rfl⟩
 rw[hW0] at PE
 have p0:=PE.p
 have q0:=PE.q
 have HB0:=Lib.hid PE.lo
 have HTK:Hid (∀ W,Below w.heap.size w W→TkIn W B lv T):=fun W hW=>h.below (hW.mono hB)
 have HBB:=Lib.hid hB
 have HCL:=Lib.hid hc
 obtain⟨c0,c1,c2,c3,c4,c5,c6,c7,c8,c9,c10,c11,c12,c13,c14,c15⟩:=p0.facts
 obtain⟨y0,y1,y2,y3,y4,y5,y6,y7,y8,y9,y10,y11,y12,y13,y14,y15⟩:=p0.free
 clear h hB hnm hit PE hc
 have hk1: (r.x.kind == 1)=false:=by rw[hk];rfl
 have hk3: (r.x.kind == 3)=false:=by rw[hk];rfl
 have hk4: (r.x.kind == 4)=false:=by rw[hk];rfl
 have hk5: (r.x.kind == 5)=false:=by rw[hk];rfl
 have hk6: (r.x.kind == 6)=false:=by rw[hk];rfl
 have hk7: (r.x.kind == 7)=true:=by rw[hk];rfl
 have HE0:=Lib.hid he
 have HX0:=Lib.hid hx0
 have HFN:=Lib.hid hfin
 clear hk he hx0 hfin
 rw[pv_is r]
 have M2:=fun W (hW:Below w.heap.size w W)=>rdmust_any (HTK.out W hW) (Nat.le_trans HBB.out hW.size) r (nv:=(.slice ad1 n1 cap1)) (iv:=(.slice ad2 n2 cap2)) ⟨_,_,_,rfl⟩ ⟨_,_,_,rfl⟩ 2 wOf (fun e=>(HCL.out e).1)
 obtain⟨r2,hr2⟩:∃ q,needD T 2 wOf r=q:=⟨_,rfl⟩
 have c2':Clr T r2:=by rw[←hr2];exact HCL.out.need 2 wOf (by decide)
 have HX2:Hid (r2.x.names=r.x.names∧r2.x.ifs=r.x.ifs):=by
  have:r2.x=r.x:=by rw[←hr2];exact needD_x _ _ _ _
  rw[this];exact⟨rfl,rfl⟩
 have CL2:=Lib.hid c2'
 have c2n:=c2'.name
 have HN:=fun W (hW:Below w.heap.size w W)=>rdname_any (HTK.out W hW) (Nat.le_trans HBB.out hW.size) r2 (nv:=(.slice ad1 n1 cap1)) (iv:=(.slice ad2 n2 cap2)) ⟨_,_,_,rfl⟩ ⟨_,_,_,rfl⟩ (fun e=>(c2' e).1)
 obtain⟨R,hR⟩:∃ R,nameD T r2=R:=⟨_,rfl⟩
 obtain⟨s,hs⟩:∃ s,nameV T r2=s:=⟨_,rfl⟩
 rw[hR,hs] at HN
 rw[hR] at c2n
 replace HN:=Lib.hid HN
 obtain⟨r3,hr3⟩:∃ q,setStage s R=q:=⟨_,rfl⟩
 have CL3:Hid (Clr T r3):=by rw[←hr3];exact c2n.stage s
 have HX3:Hid (r3.x.names=r.x.names∧r3.x.ifs=r.x.ifs):=by
  have h:R.x=r2.x:=by rw[←hR];exact takeD_x T 1 _
  rw[←hr3];show Hid (R.x.names=_∧R.x.ifs=_)
  rw[h];exact HX2
 have HFIN:Hid (r3.x.final=false):=by
  have h:R.x=r2.x:=by rw[←hR];exact takeD_x T 1 _
  have h2:r2.x=r.x:=by rw[←hr2];exact needD_x _ _ _ _
  rw[←hr3];show Hid (R.x.final=false)
  rw[h,h2];exact HFN
 obtain⟨F3,hF3⟩:∃ F,miR3 T r=F:=⟨_,rfl⟩
 have HU3:Hid (sentryD T r3=F3):=by unfold Hid;rw[←hF3];unfold miR3;rw[hr2,hR,hs,hr3]
 have HUM:miR T r=setFinal (mayB T 2 wFinal F3) (mayD T 2 wFinal F3):=by unfold miR;rw[hF3]
 rw[HUM]
 rw[hr2] at M2
 replace M2:=Lib.hid M2
 have HR3:=Lib.hid hr3
 clear hr2 c2' c2n hR hs hr3 hF3 HUM
 go_enter Tryz.func27,Tryz.ntmps27
 go_wp2_with (first| (refine wpL_loadP rfl rfl rfl (by assumption) ?_)| (refine wpL_storeP rfl rfl rfl rfl (by assumption) ?_)|fail)
 refine(M2.out _ HB0.out).mono ?_
 rintro en w1 ⟨rfl,hb1⟩
 skip
 have pp1:=p0.below hb1
 have qq1:=q0.below hb1
 have HBB1:=Lib.hid (HB0.out.trans (hb1.mono HB0.out.size))
 clear hb1 p0 q0
 go_wp2_with (first| (refine wpL_loadP rfl rfl rfl (by assumption) ?_)| (refine wpL_storeP rfl rfl rfl rfl (by assumption) ?_)|fail)
 unfold Hid
 intro W1 p1 k1
 have q1:=k1.pb qq1 (show w.heap.size+1≠w.heap.size by omega)
 have HB1:=Lib.hid (k1.below HBB1.out (Nat.le_refl _))
 try clear e0 e1 e2 e3 e4 e5 e6 e7 e8 e9 e10 e11 e12 e13 e14 e15
 try clear v0 v1 v2 v3 v4 v5 v6 v7 v8 v9 v10 v11 v12 v13 v14 v15
 obtain⟨e0,e1,e2,e3,e4,e5,e6,e7,e8,e9,e10,e11,e12,e13,e14,e15⟩:=p1.facts
 obtain⟨v0,v1,v2,v3,v4,v5,v6,v7,v8,v9,v10,v11,v12,v13,v14,v15⟩:=p1.free
 clear pp1 qq1 k1
 go_wp2_with (first| (refine wpL_loadP rfl rfl rfl (by assumption) ?_)| (refine wpL_storeP rfl rfl rfl rfl (by assumption) ?_)|fail)
 refine(HN.out _ HB1.out).mono ?_
 rintro en w2 ⟨rfl,hb2⟩
 have hal:=(Below.refl w2.heap.size w2).alloc (Nat.le_refl _) (.cells #[.int .i64 0,.string ⟨#[]⟩,.int .i64 0,.int .i64 0,.int .i64 0,.slice none 0 0,.string ⟨#[]⟩,.string ⟨#[]⟩,.string ⟨#[]⟩,.int .i64 0,.slice none 0 0,.bool false,.int .i64 0,.int .i64 0,.int .i64 0,.int .i64 0] 62)
 have pp2:=(p1.below hb2).below hal
 have qq2:=(q1.below hb2).below hal
 have zz2:PB (w2.alloc (.cells #[.int .i64 0,.string ⟨#[]⟩,.int .i64 0,.int .i64 0,.int .i64 0,.slice none 0 0,.string ⟨#[]⟩,.string ⟨#[]⟩,.string ⟨#[]⟩,.int .i64 0,.slice none 0 0,.bool false,.int .i64 0,.int .i64 0,.int .i64 0,.int .i64 0] 62)) w2.heap.size zeroR (.slice none 0 0) (.slice none 0 0):=heap_alloc_new w2 _
 have HBB2:=Lib.hid ((HB1.out.trans (hb2.mono HB1.out.size)).trans (hal.mono (Nat.le_trans HB1.out.size hb2.size)))
 have hlt2:w.heap.size+1 < w2.heap.size:=Nat.lt_of_lt_of_le q1.lt hb2.size
 obtain⟨X2,hX2⟩:∃ W,(w2.alloc (.cells #[.int .i64 0,.string ⟨#[]⟩,.int .i64 0,.int .i64 0,.int .i64 0,.slice none 0 0,.string ⟨#[]⟩,.string ⟨#[]⟩,.string ⟨#[]⟩,.int .i64 0,.slice none 0 0,.bool false,.int .i64 0,.int .i64 0,.int .i64 0,.int .i64 0] 62))=W:=⟨_,rfl⟩
 rw[hX2] at pp2 qq2 zz2 HBB2
 clear hb2 hal p1 q1
 go_wp2_with (first| (refine wpL_loadP rfl rfl rfl (by assumption) ?_)| (refine wpL_storeP rfl rfl rfl rfl (by assumption) ?_)|fail)
 unfold Hid
 intro Y2 z2 k2
 have y2:=k2.pb pp2 (show w.heap.size≠w2.heap.size by omega)
 have x2:=k2.pb qq2 (show w.heap.size+1≠w2.heap.size by omega)
 have HBC2:=Lib.hid (k2.below HBB2.out (show w.heap.size≤w2.heap.size by omega))
 clear pp2 qq2 zz2 k2
 go_wp2_with (first| (refine wpL_loadP rfl rfl rfl (by assumption) ?_)| (refine wpL_storeP rfl rfl rfl rfl (by assumption) ?_)|fail)
 unfold Hid
 intro W3 p3 k3
 have q3:=k3.pb x2 (show w.heap.size+1≠w.heap.size by omega)
 have HB3:=Lib.hid (k3.below HBC2.out (Nat.le_refl _))
 try clear e0 e1 e2 e3 e4 e5 e6 e7 e8 e9 e10 e11 e12 e13 e14 e15
 try clear v0 v1 v2 v3 v4 v5 v6 v7 v8 v9 v10 v11 v12 v13 v14 v15
 obtain⟨e0,e1,e2,e3,e4,e5,e6,e7,e8,e9,e10,e11,e12,e13,e14,e15⟩:=p3.facts
 obtain⟨v0,v1,v2,v3,v4,v5,v6,v7,v8,v9,v10,v11,v12,v13,v14,v15⟩:=p3.free
 clear y2 x2 z2 k3
 obtain⟨W4,hW4⟩:∃ W,(W3.setCell ⟨w.heap.size,7,none⟩ (.string s))=W:=⟨_,rfl⟩
 have p4:=p3.putStage s
 have q4:=q3.over (show w.heap.size+1≠w.heap.size by omega) (.string s) (j:=7)
 have hbW4:=HB3.out.setCell (p:=⟨w.heap.size,7,none⟩) (Nat.le_refl _) (.string s)
 rw[hW4] at p4 q4 hbW4
 have HB4:=Lib.hid hbW4
 clear hbW4
 rw[HR3.out] at p4
 clear p3 q3
 have NM4:=Lib.hid (HNM.out.keep HB4.out)
 have IT4:=Lib.hid (HIT.out.keep HB4.out)
 rw[←HX3.out.1] at NM4
 rw[←HX3.out.2] at IT4
 have HSE:=Lib.hid (rdsentry_any (HTK.out _ HB4.out) (Nat.le_trans HBB.out HB4.out.size) r3 NM4.out IT4.out CL3.out)
 rw[HU3.out] at HSE
 go_wp2_with (first| (refine wpL_loadP rfl rfl rfl (by assumption) ?_)| (refine wpL_storeP rfl rfl rfl rfl (by assumption) ?_)|fail)
 refine HSE.out.mono ?_
 rintro en w5 ⟨R5,nv1,iv1,rfl,heq,hnm,hit,hb5⟩
 obtain⟨ad6,n6,cap6,rfl⟩:=hnm.sl
 obtain⟨ad5,n5,cap5,rfl⟩:=hit.sl
 have pp5:=p4.below hb5
 have qq5:=q4.below hb5
 have HBB5:=Lib.hid (HB4.out.trans (hb5.mono HB4.out.size))
 have HEQ:=Lib.hid heq
 have HNM5:=Lib.hid hnm
 have HIT5:=Lib.hid hit
 clear hb5 p4 q4 heq hnm hit
 go_wp2_with (first| (refine wpL_loadP rfl rfl rfl (by assumption) ?_)| (refine wpL_storeP rfl rfl rfl rfl (by assumption) ?_)|fail)
 unfold Hid
 intro W6 p6 k6
 have q6:=k6.pb qq5 (show w.heap.size+1≠w.heap.size by omega)
 have HB6:=Lib.hid (k6.below HBB5.out (Nat.le_refl _))
 try clear e0 e1 e2 e3 e4 e5 e6 e7 e8 e9 e10 e11 e12 e13 e14 e15
 try clear v0 v1 v2 v3 v4 v5 v6 v7 v8 v9 v10 v11 v12 v13 v14 v15
 obtain⟨e0,e1,e2,e3,e4,e5,e6,e7,e8,e9,e10,e11,e12,e13,e14,e15⟩:=p6.facts
 obtain⟨v0,v1,v2,v3,v4,v5,v6,v7,v8,v9,v10,v11,v12,v13,v14,v15⟩:=p6.free
 have NM6:=Lib.hid (k6.nm pp5 HNM5.out)
 have IT6:=Lib.hid (k6.it pp5 HIT5.out)
 clear pp5 qq5 k6
 by_cases he5:R5.er=0
 · have heb: (R5.er == 0)=true:=by rw[beq_iff_eq];exact he5
   have HF5:Hid (F3=R5):=(HEQ.out.2.2.2 (by rw[←HEQ.out.1];exact he5)).symm
   have HI:=Lib.hid (rdis_any (HTK.out _ HB6.out) (Nat.le_trans HBB.out HB6.out.size) R5.i 2 wFinal)
   cases hq:isTk T R5.i 2 wFinal
   · have HFF:Hid (EqR R5 (setFinal (mayB T 2 wFinal F3) (mayD T 2 wFinal F3))):=by
      unfold Hid
      rw[HF5.out]
      unfold mayD
      rw[if_neg (by rw[mayB_good he5,hq];decide),mayB_good he5,hq]
      have:setFinal false R5=R5:=by
       have hfin:R5.x.final=false:=by
        rw[←HF5.out,←HU3.out,sentry_final];exact HFIN.out
       unfold setFinal
       rw[←hfin]
      rw[this];exact EqR.refl _
     rw[hq] at HI
     clear hq he5
     go_wp2_with (first| (refine wpL_loadP rfl rfl rfl (by assumption) ?_)| (refine wpL_storeP rfl rfl rfl rfl (by assumption) ?_)|fail)
     refine HI.out.mono ?_
     rintro en w7 ⟨rfl,hb7⟩
     have p7:=p6.below hb7
     have q7:=q6.below hb7
     have HB7:=Lib.hid (HB6.out.trans (hb7.mono HB6.out.size))
     have NM7:=Lib.hid (NM6.out.keep hb7)
     have IT7:=Lib.hid (IT6.out.keep hb7)
     clear hb7 p6 q6 HI
     go_wp2_with (first| (refine wpL_loadP rfl rfl rfl (by assumption) ?_)| (refine wpL_storeP rfl rfl rfl rfl (by assumption) ?_)|fail)
     unfold Hid
     intro W9 qe ke
     have hbe:=ke.below HB7.out (show w.heap.size≤w.heap.size+1 by omega)
     have hnm9:NmRow W9 (.slice ad6 n6 cap6) R5.x.names:=ke.nm q7 NM7.out
     have hit9:ItRow W9 (.slice ad5 n5 cap5) R5.x.ifs:=ke.it q7 IT7.out
     go_wp2
     exact bodyPost_ret (run_resP (by rfl) (by rfl) qe) rfl ⟨_,_,_,rfl,HFF.out,hnm9,hit9,hbe⟩
   · have HIN:=isTk_in hq (by decide)
     have hwr:IntKind.i64.wrap (R5.i+1)=R5.i+1:=IntWalk.i64_in _ ⟨by omega,by omega⟩
     have HFF:Hid (setFinal (mayB T 2 wFinal F3) (mayD T 2 wFinal F3)= { (setFinal true R5) with i:=R5.i+1 }):=by
      unfold Hid
      rw[HF5.out]
      unfold mayD
      rw[if_pos (by rw[mayB_good he5,hq]),mayB_good he5,hq];rfl
     rw[hq] at HI
     clear hq he5 HIN
     go_wp2_with (first| (refine wpL_loadP rfl rfl rfl (by assumption) ?_)| (refine wpL_storeP rfl rfl rfl rfl (by assumption) ?_)|fail)
     refine HI.out.mono ?_
     rintro en w7 ⟨rfl,hb7⟩
     have p7:=p6.below hb7
     have q7:=q6.below hb7
     have HB7:=Lib.hid (HB6.out.trans (hb7.mono HB6.out.size))
     have NM7:=Lib.hid (NM6.out.keep hb7)
     have IT7:=Lib.hid (IT6.out.keep hb7)
     clear hb7 p6 q6 HI
     try clear e0 e1 e2 e3 e4 e5 e6 e7 e8 e9 e10 e11 e12 e13 e14 e15
     try clear v0 v1 v2 v3 v4 v5 v6 v7 v8 v9 v10 v11 v12 v13 v14 v15
     obtain⟨e0,e1,e2,e3,e4,e5,e6,e7,e8,e9,e10,e11,e12,e13,e14,e15⟩:=p7.facts
     obtain⟨v0,v1,v2,v3,v4,v5,v6,v7,v8,v9,v10,v11,v12,v13,v14,v15⟩:=p7.free
     obtain⟨V1,hV1⟩:∃ W,(w7.setCell ⟨w.heap.size,11,none⟩ (.bool true))=W:=⟨_,rfl⟩
     have p8:=p7.putFinal true
     have q8:=q7.over (show w.heap.size+1≠w.heap.size by omega) (.bool true) (j:=11)
     have hbV1:=HB7.out.setCell (p:=⟨w.heap.size,11,none⟩) (Nat.le_refl _) (.bool true)
     rw[hV1] at p8 q8 hbV1
     have HB8:=Lib.hid hbV1
     clear hbV1
     have NM8:Hid (NmRow V1 (.slice ad6 n6 cap6) R5.x.names):=by unfold Hid;rw[←hV1];exact(KeptP.cell w7 w.heap.size 11 (.bool true)).nm p7 NM7.out
     have IT8:Hid (ItRow V1 (.slice ad5 n5 cap5) R5.x.ifs):=by unfold Hid;rw[←hV1];exact(KeptP.cell w7 w.heap.size 11 (.bool true)).it p7 IT7.out
     try clear g0 g1 g2 g3 g4 g5 g6 g7 g8 g9 g10 g11 g12 g13 g14 g15
     try clear u0 u1 u2 u3 u4 u5 u6 u7 u8 u9 u10 u11 u12 u13 u14 u15
     obtain⟨g0,g1,g2,g3,g4,g5,g6,g7,g8,g9,g10,g11,g12,g13,g14,g15⟩:=p8.facts
     obtain⟨u0,u1,u2,u3,u4,u5,u6,u7,u8,u9,u10,u11,u12,u13,u14,u15⟩:=p8.free
     replace g12:V1.cell? ⟨w.heap.size,12,none⟩ = some (.int .i64 R5.i):=g12
     obtain⟨V2,hV2⟩:∃ W,(V1.setCell ⟨w.heap.size,12,none⟩ (.int .i64 (R5.i+1)))=W:=⟨_,rfl⟩
     have p9:=p8.putI (R5.i+1)
     have q9:=q8.over (show w.heap.size+1≠w.heap.size by omega) (.int .i64 (R5.i+1)) (j:=12)
     have hbV2:=HB8.out.setCell (p:=⟨w.heap.size,12,none⟩) (Nat.le_refl _) (.int .i64 (R5.i+1))
     rw[hV2] at p9 q9 hbV2
     have HB9:=Lib.hid hbV2
     clear hbV2
     have NM9:Hid (NmRow V2 (.slice ad6 n6 cap6) R5.x.names):=by unfold Hid;rw[←hV2];exact(KeptP.cell V1 w.heap.size 12 (.int .i64 (R5.i+1))).nm p8 NM8.out
     have IT9:Hid (ItRow V2 (.slice ad5 n5 cap5) R5.x.ifs):=by unfold Hid;rw[←hV2];exact(KeptP.cell V1 w.heap.size 12 (.int .i64 (R5.i+1))).it p8 IT8.out
     obtain⟨Rb,hRb⟩:∃ R,({ (setFinal true R5) with i:=R5.i+1 }:RS)=R:=⟨_,rfl⟩
     have HXN:Hid (Rb.x.names=R5.x.names∧Rb.x.ifs=R5.x.ifs):=by rw[←hRb];exact⟨rfl,rfl⟩
     have HEE:Hid (setFinal (mayB T 2 wFinal F3) (mayD T 2 wFinal F3)=Rb):=by unfold Hid;rw[HFF.out,←hRb]
     have pb':PB V2 w.heap.size Rb (.slice ad6 n6 cap6) (.slice ad5 n5 cap5):=by rw[←hRb];exact p9
     clear p7 q7 p8 q8 hRb p9
     go_wp2_with (first| (refine wpL_loadP rfl rfl rfl (by assumption) ?_)| (refine wpL_storeP rfl rfl rfl rfl (by assumption) ?_)|fail)
     unfold Hid
     intro W9 qe ke
     have hbe:=ke.below HB9.out (show w.heap.size≤w.heap.size+1 by omega)
     have hnm9:NmRow W9 (.slice ad6 n6 cap6) Rb.x.names:=by rw[HXN.out.1];exact ke.nm q9 NM9.out
     have hit9:ItRow W9 (.slice ad5 n5 cap5) Rb.x.ifs:=by rw[HXN.out.2];exact ke.it q9 IT9.out
     go_wp2
     exact bodyPost_ret (run_resP (by rfl) (by rfl) qe) rfl ⟨_,_,_,rfl,by rw[HEE.out];exact EqR.refl _,hnm9,hit9,hbe⟩
 · have heb: (R5.er == 0)=false:=beq_eq_false_iff_ne.2 he5
   have HFF:Hid (EqR R5 (setFinal (mayB T 2 wFinal F3) (mayD T 2 wFinal F3))):=by
    have hne:F3.er≠0:=by rw[←HEQ.out.1];exact he5
    unfold Hid mayD
    rw[if_neg (by rw[mayB_bad hne];decide)]
    exact⟨HEQ.out.1,HEQ.out.2.1,HEQ.out.2.2.1,fun h=>absurd (show F3.er=0 from h) hne⟩
   clear he5
   go_wp2_with (first| (refine wpL_loadP rfl rfl rfl (by assumption) ?_)| (refine wpL_storeP rfl rfl rfl rfl (by assumption) ?_)|fail)
   unfold Hid
   intro W9 qe ke
   have hbe:=ke.below HB6.out (show w.heap.size≤w.heap.size+1 by omega)
   have hnm9:NmRow W9 (.slice ad6 n6 cap6) R5.x.names:=ke.nm q6 NM6.out
   have hit9:ItRow W9 (.slice ad5 n5 cap5) R5.x.ifs:=ke.it q6 IT6.out
   go_wp2
   exact bodyPost_ret (run_resP (by rfl) (by rfl) qe) rfl ⟨_,_,_,rfl,HFF.out,hnm9,hit9,hbe⟩
end Go.Proofs.YthlofmnmacpogaaGreatDoor
namespace Go.Proofs.YthlofmnmacpogaaGreatDoor
open Go.RowKit
theorem kindN_at {s:ByteArray} {k:Nat} (h:kindL[k]?=some s):kindN s= (k:Int)+1:=by
 have hk:k < 8:=(List.getElem?_eq_some_iff.1 h).1
 have hc:k=0∨k=1∨k=2∨k=3∨k=4∨k=5∨k=6∨k=7:=by omega
 rcases hc with rfl|rfl|rfl|rfl|rfl|rfl|rfl|rfl <;> (obtain rfl:=Option.some.inj h;decide)
theorem kindN_no {s:ByteArray} (h:∀ j x,j < 8→kindL[j]?=some x→x≠s):kindN s=0:=by
 unfold kindN
 rw[if_neg (fun e=>h 0 _ (by omega) rfl e.symm),if_neg (fun e=>h 1 _ (by omega) rfl e.symm),if_neg (fun e=>h 2 _ (by omega) rfl e.symm),if_neg (fun e=>h 3 _ (by omega) rfl e.symm),if_neg (fun e=>h 4 _ (by omega) rfl e.symm),if_neg (fun e=>h 5 _ (by omega) rfl e.symm),if_neg (fun e=>h 6 _ (by omega) rfl e.symm),if_neg (fun e=>h 7 _ (by omega) rfl e.symm)]
set_option maxRecDepth 100000 in
set_option maxHeartbeats 4000000 in
theorem rdkind_any (s:ByteArray) (w:World) :
 Calls Tryz.prog 23 #[.string s] w fun e w'=>e=.returned (.int .i64 (kindN s))∧Below w.heap.size w w':=by
 obtain⟨W0,hW0⟩:∃ W,w.alloc (.cells #[.string ⟨#[97,116,116,114]⟩,.string ⟨#[117,115,101,114]⟩,.string ⟨#[114,111,108,101]⟩,.string ⟨#[115,116,97,103,101]⟩,.string ⟨#[101,118,101,110,116]⟩,.string ⟨#[103,117,97,114,100]⟩,.string ⟨#[109,105,108,101,115,116,111,110,101]⟩,.string ⟨#[115,111,100]⟩] 9)=W:=⟨_,rfl⟩
 have HR:Hid (NmRow W0 (.slice (some ⟨w.heap.size,0,none⟩) 8 8) kindL):=by
  rw[←hW0]
  exact⟨_,World.ownsRow_lit (e:=9) (size:=1) w #[.string ⟨#[97,116,116,114]⟩,.string ⟨#[117,115,101,114]⟩,.string ⟨#[114,111,108,101]⟩,.string ⟨#[115,116,97,103,101]⟩,.string ⟨#[101,118,101,110,116]⟩,.string ⟨#[103,117,97,114,100]⟩,.string ⟨#[109,105,108,101,115,116,111,110,101]⟩,.string ⟨#[115,111,100]⟩] 8 (Nat.le_refl _) (by decide) (by simp)⟩
 have HB:Hid (Below w.heap.size w W0):=by rw[←hW0];exact(Below.refl _ _).alloc (Nat.le_refl _) _
 go_enter Tryz.func23,Tryz.ntmps23
 go_wp2
 go_loopw [4] (fun i wr=>∃ k:Nat,i=.int .i64 k∧k≤8∧wr=W0∧Hid (∀ j x,j < k→kindL[j]?=some x→x≠s)) (fun i _=>8 - (intOf i).toNat)
 case atStart=>exact⟨0,by go_num,by omega,rfl,fun j x hj=>absurd hj (by omega)⟩
 case round=>
  obtain⟨k,rfl,hk,rfl,HNO⟩:=hrel
  by_cases hlt:k < 8
  · obtain⟨x,hx⟩:∃ x,kindL[k]?=some x:=⟨_,List.getElem?_eq_getElem (show k < kindL.length from hlt)⟩
    obtain⟨g,c1,hg,hgl,a0⟩:=HR.out.at hx
    have hg':g=w.heap.size:=by
     simp only[Value.slice.injEq,Option.some.injEq,Addr.mk.injEq] at hg
     exact hg.1.1.symm
    subst hg'
    clear hg hgl
    have hkz: (k:Int) < 8:=by omega
    have HX:=Lib.hid hx
    by_cases hs:x=s
    · have htb: (x.toList == s.toList)=true:=by rw[bytes_beq];exact decide_eq_true hs
      have HK:Hid (kindN s= (k:Int)+1):=kindN_at (by rw[←hs];exact hx)
      clear hx hs
      go_wp2
      go_ret
      exact⟨by rw[HK.out];rfl,HB.out⟩
    · have htb: (x.toList == s.toList)=false:=by rw[bytes_beq];exact decide_eq_false hs
      have HN2:Hid (∀ j y,j < k+1→kindL[j]?=some y→y≠s):=fun j y hj hy=>by
       by_cases e:j=k
       · subst e
         obtain rfl:=Option.some.inj (hy.symm.trans HX.out)
         exact hs
       · exact HNO.out j y (by omega) hy
      clear hx hs
      go_wp2
      go_roundw
      case rel=>exact⟨k+1,by go_num,by omega,trivial,HN2⟩
      case measure=>simp[intOf];omega
  · have hkz:¬(k:Int) < 8:=by omega
    have HK:Hid (kindN s=0):=kindN_no (fun j x hj=>HNO.out j x (by omega))
    go_wp2
    go_ret
    exact⟨by rw[HK.out];rfl,HB.out⟩
theorem rdrest_any {w:World} {B:Nat} {lv:Value} {T:List Tk} (h:TkIn w B lv T) (hB:B≤w.heap.size) (r:RS) {nv iv:Value} (hnm:NmRow w nv r.x.names) (hit:ItRow w iv r.x.ifs) (hc:Clr T r) (he:r.er=0) (hx0:r.x.names= []) (hfin:r.x.final=false) (hk:r.x.kind=1∨r.x.kind=2∨r.x.kind=3∨r.x.kind=4∨r.x.kind=5∨r.x.kind=6∨r.x.kind=7) :
 Calls Tryz.prog 27 #[lv,pvV r nv iv] w (RdP w (restR T r.x.kind r)):=by
 rcases hk with e|e|e|e|e|e|e
 · rw[show restR T r.x.kind r=atR T r by rw[e];rfl];exact rdrest_attr h hB r hnm hit hc e he hx0
 · rw[show restR T r.x.kind r=r by rw[e];rfl];exact rdrest_user h hB r hnm hit hc e he hx0
 · rw[show restR T r.x.kind r=roR T r by rw[e];rfl];exact rdrest_role h hB r hnm hit hc e he hx0
 · rw[show restR T r.x.kind r=stR T r by rw[e];rfl];exact rdrest_stage h hB r hnm hit hc e he hx0
 · rw[show restR T r.x.kind r=evR T r by rw[e];rfl];exact rdrest_event h hB r hnm hit hc e he hx0
 · rw[show restR T r.x.kind r=sentryD T r by rw[e];rfl];exact rdrest_guard h hB r hnm hit hc e he hx0
 · rw[show restR T r.x.kind r=miR T r by rw[e];rfl];exact rdrest_mile h hB r hnm hit hc e he hx0 hfin
theorem need_bad {T:List Tk} {k:Int} {s:ByteArray} {r:RS} (h:r.er≠0):needD T k s r=r:=by
 unfold needD failD
 rw[if_neg (by rw[mayB_bad h];decide),if_neg h]
theorem may_bad {T:List Tk} {k:Int} {s:ByteArray} {r:RS} (h:r.er≠0):mayD T k s r=r:=by
 unfold mayD
 rw[if_neg (by rw[mayB_bad h];decide)]
theorem sentry_bad {T:List Tk} {r:RS} (h:r.er≠0):sentryD T r=r:=by
 have:onD T r=r:=by unfold onD;rw[if_neg (by rw[mayB_bad h];decide)]
 unfold sentryD;rw[this,if_neg (by rw[mayB_bad h];decide)]
theorem rest_bad (T:List Tk) (k:Int) {r:RS} (h:r.er≠0):EqR r (restR T k r):=by
 unfold restR
 split
 · unfold atR
   rw[need_bad h,(num_bad h).1,(num_bad h).2]
   exact⟨rfl,rfl,rfl,fun e=>absurd e h⟩
 split
 · exact EqR.refl _
 split
 · unfold roR
   rw[need_bad h]
   exact role_bad h
 split
 · unfold stR
   rw[if_neg (by rw[mayB_bad h];decide)]
   exact EqR.refl _
 split
 · have h1:evR5 T r=setStage ⟨#[]⟩ (setRole ⟨#[]⟩ r):=by
    unfold evR5
    dsimp only
    rw[need_bad h,(name_bad h).1,(name_bad h).2,need_bad (show(setRole ⟨#[]⟩ r).er≠0 from h),(name_bad (show(setRole ⟨#[]⟩ r).er≠0 from h)).1,(name_bad (show(setRole ⟨#[]⟩ r).er≠0 from h)).2]
   have h2: (setStage ⟨#[]⟩ (setRole ⟨#[]⟩ r)).er≠0:=h
   unfold evR evR6
   rw[h1,if_neg (by rw[mayB_bad h2];decide)]
   unfold evR7
   rw[if_neg (by rw[mayB_bad h2];decide)]
   exact⟨rfl,rfl,rfl,fun e=>absurd e h⟩
 split
 · rw[sentry_bad h];exact EqR.refl _
 · unfold miR miR3
   rw[need_bad h,(name_bad h).1,(name_bad h).2,sentry_bad (show(setStage ⟨#[]⟩ r).er≠0 from h),may_bad (show(setStage ⟨#[]⟩ r).er≠0 from h)]
   exact⟨rfl,rfl,rfl,fun e=>absurd e h⟩
theorem rule_first (T:List Tk) (k:Int) (r:RS) (hk:r.x.kind=k) (h:k=1∨k=2∨k=3∨k=4∨k=5∨k=6∨k=7):ruleD T k r=restR T k (firstR T r):=by
 rcases h with e|e|e|e|e|e|e
 · subst e;rw[show firstR T r=setName (nameV T r) (nameD T r) by unfold firstR;rw[hk];rfl];rfl
 · subst e;rw[show firstR T r=setName (nameV T r) (nameD T r) by unfold firstR;rw[hk];rfl];rfl
 · subst e;rw[show firstR T r=setName (nameV T r) (nameD T r) by unfold firstR;rw[hk];rfl];rfl
 · subst e;rw[show firstR T r=setName (nameV T r) (nameD T r) by unfold firstR;rw[hk];rfl];rfl
 · subst e;rw[show firstR T r=setName (nameV T r) (nameD T r) by unfold firstR;rw[hk];rfl];rfl
 · subst e;rw[show firstR T r=setStage (nameV T r) (nameD T r) by unfold firstR;rw[hk];rfl];rfl
 · subst e;rw[show firstR T r=setName (nameV T r) (nameD T r) by unfold firstR;rw[hk];rfl];rfl
theorem inD_rule {T:List Tk} {r:RS} (k:Int) (h:InD T r):InD T (ruleD T k r):=by
 unfold ruleD
 split
 · exact inD_attr h
 split
 · exact inD_user h
 split
 · exact inD_role h
 split
 · exact inD_stage h
 split
 · exact inD_event h
 split
 · exact inD_guard h
 split
 · exact inD_mile h
 · exact inD_sod h
end Go.Proofs.YthlofmnmacpogaaGreatDoor
namespace Go.Proofs.YthlofmnmacpogaaGreatDoor
open Go.RowKit
def RdOne (w:World) (p:DR) (e:Ending) (w':World):Prop:=
 match p with
 | .ok x a=>∃ nv iv,e=.returned (.tuple #[stV x nv iv,.int .i64 a,.agg #[.int .i64 0,.int .i64 0,.int .i64 0]])∧NmRow w' nv x.names∧ItRow w' iv x.ifs∧Below w.heap.size w w'
 | .bad er l c=>e=.returned (.tuple #[stV noSt (.slice none 0 0) (.slice none 0 0),.int .i64 0,.agg #[.int .i64 er,.int .i64 l,.int .i64 c]])∧Below w.heap.size w w'
structure RS1 (w W:World) (b:Nat):Prop where
 st:StB W w.heap.size noSt (.slice none 0 0) (.slice none 0 0)
 ft:FtB W (w.heap.size+1) 0 0 0
 lo:Below w.heap.size w W
 lt:w.heap.size+1 < b
theorem RS1.below {w W W':World} {b:Nat} (h:RS1 w W b) (hb:Below W.heap.size W W'):RS1 w W' b:=⟨h.st.below hb,h.ft.below hb,h.lo.trans (hb.mono h.lo.size),h.lt⟩
theorem RS1.kept {w W W':World} {b:Nat} (h:RS1 w W b) (k:KeptP W W' b):RS1 w W' b:=
 ⟨(k.block _ (by have:=h.lt;omega)).trans h.st,(k.block _ (by have:=h.lt;omega)).trans h.ft,k.below h.lo (by have:=h.lt;omega),h.lt⟩
theorem RS1.done {w W:World} {b:Nat} (h:RS1 w W b) (y:St) (nv2 iv2:Value) (e l c:Int) :
 StB (((((((((((((((W.setCell ⟨w.heap.size,0,none⟩ (.int .i64 y.kind)).setCell ⟨w.heap.size,1,none⟩ (.string y.name)).setCell ⟨w.heap.size,2,none⟩ (.int .i64 y.line)).setCell ⟨w.heap.size,3,none⟩ (.int .i64 y.col)).setCell ⟨w.heap.size,4,none⟩ (.int .i64 y.init)).setCell ⟨w.heap.size,5,none⟩ nv2).setCell ⟨w.heap.size,6,none⟩ (.string y.role)).setCell ⟨w.heap.size,7,none⟩ (.string y.stage)).setCell ⟨w.heap.size,8,none⟩ (.string y.event)).setCell ⟨w.heap.size,9,none⟩ (.int .i64 y.times)).setCell ⟨w.heap.size,10,none⟩ iv2).setCell ⟨w.heap.size,11,none⟩ (.bool y.final)).setCell ⟨w.heap.size+1,0,none⟩ (.int .i64 e)).setCell ⟨w.heap.size+1,1,none⟩ (.int .i64 l)).setCell ⟨w.heap.size+1,2,none⟩ (.int .i64 c)) w.heap.size y nv2 iv2∧FtB (((((((((((((((W.setCell ⟨w.heap.size,0,none⟩ (.int .i64 y.kind)).setCell ⟨w.heap.size,1,none⟩ (.string y.name)).setCell ⟨w.heap.size,2,none⟩ (.int .i64 y.line)).setCell ⟨w.heap.size,3,none⟩ (.int .i64 y.col)).setCell ⟨w.heap.size,4,none⟩ (.int .i64 y.init)).setCell ⟨w.heap.size,5,none⟩ nv2).setCell ⟨w.heap.size,6,none⟩ (.string y.role)).setCell ⟨w.heap.size,7,none⟩ (.string y.stage)).setCell ⟨w.heap.size,8,none⟩ (.string y.event)).setCell ⟨w.heap.size,9,none⟩ (.int .i64 y.times)).setCell ⟨w.heap.size,10,none⟩ iv2).setCell ⟨w.heap.size,11,none⟩ (.bool y.final)).setCell ⟨w.heap.size+1,0,none⟩ (.int .i64 e)).setCell ⟨w.heap.size+1,1,none⟩ (.int .i64 l)).setCell ⟨w.heap.size+1,2,none⟩ (.int .i64 c)) (w.heap.size+1) e l c∧Below w.heap.size w (((((((((((((((W.setCell ⟨w.heap.size,0,none⟩ (.int .i64 y.kind)).setCell ⟨w.heap.size,1,none⟩ (.string y.name)).setCell ⟨w.heap.size,2,none⟩ (.int .i64 y.line)).setCell ⟨w.heap.size,3,none⟩ (.int .i64 y.col)).setCell ⟨w.heap.size,4,none⟩ (.int .i64 y.init)).setCell ⟨w.heap.size,5,none⟩ nv2).setCell ⟨w.heap.size,6,none⟩ (.string y.role)).setCell ⟨w.heap.size,7,none⟩ (.string y.stage)).setCell ⟨w.heap.size,8,none⟩ (.string y.event)).setCell ⟨w.heap.size,9,none⟩ (.int .i64 y.times)).setCell ⟨w.heap.size,10,none⟩ iv2).setCell ⟨w.heap.size,11,none⟩ (.bool y.final)).setCell ⟨w.heap.size+1,0,none⟩ (.int .i64 e)).setCell ⟨w.heap.size+1,1,none⟩ (.int .i64 l)).setCell ⟨w.heap.size+1,2,none⟩ (.int .i64 c)):=by
 have hs:=h.st.stored y nv2 iv2
 have hf:FtB ((((((((((((W.setCell ⟨w.heap.size,0,none⟩ (.int .i64 y.kind)).setCell ⟨w.heap.size,1,none⟩ (.string y.name)).setCell ⟨w.heap.size,2,none⟩ (.int .i64 y.line)).setCell ⟨w.heap.size,3,none⟩ (.int .i64 y.col)).setCell ⟨w.heap.size,4,none⟩ (.int .i64 y.init)).setCell ⟨w.heap.size,5,none⟩ nv2).setCell ⟨w.heap.size,6,none⟩ (.string y.role)).setCell ⟨w.heap.size,7,none⟩ (.string y.stage)).setCell ⟨w.heap.size,8,none⟩ (.string y.event)).setCell ⟨w.heap.size,9,none⟩ (.int .i64 y.times)).setCell ⟨w.heap.size,10,none⟩ iv2).setCell ⟨w.heap.size,11,none⟩ (.bool y.final)) (w.heap.size+1) 0 0 0:=
  (((((((((((h.ft.over1 (by omega) _).over1 (by omega) _).over1 (by omega) _).over1 (by omega) _).over1 (by omega) _).over1 (by omega) _).over1 (by omega) _).over1 (by omega) _).over1 (by omega) _).over1 (by omega) _).over1 (by omega) _).over1 (by omega) _
 exact⟨((hs.over (by omega) _).over (by omega) _).over (by omega) _,hf.stored e l c,below_fault (below_st h.lo (Nat.le_refl _) _ _ _ _ _ _ _ _ _ _ _ _) (by omega) _ _ _⟩
theorem row_done {w W:World} {b:Nat} (h:RS1 w W b) (y:St) (nv2 iv2:Value) (e l c:Int) {base sz n:Nat} {t:TypeId} {v:Value} {xs:List Value} (h1:37≠t) (h2:28≠t) (hr:W.ownsRow base t sz v n xs): (((((((((((((((W.setCell ⟨w.heap.size,0,none⟩ (.int .i64 y.kind)).setCell ⟨w.heap.size,1,none⟩ (.string y.name)).setCell ⟨w.heap.size,2,none⟩ (.int .i64 y.line)).setCell ⟨w.heap.size,3,none⟩ (.int .i64 y.col)).setCell ⟨w.heap.size,4,none⟩ (.int .i64 y.init)).setCell ⟨w.heap.size,5,none⟩ nv2).setCell ⟨w.heap.size,6,none⟩ (.string y.role)).setCell ⟨w.heap.size,7,none⟩ (.string y.stage)).setCell ⟨w.heap.size,8,none⟩ (.string y.event)).setCell ⟨w.heap.size,9,none⟩ (.int .i64 y.times)).setCell ⟨w.heap.size,10,none⟩ iv2).setCell ⟨w.heap.size,11,none⟩ (.bool y.final)).setCell ⟨w.heap.size+1,0,none⟩ (.int .i64 e)).setCell ⟨w.heap.size+1,1,none⟩ (.int .i64 l)).setCell ⟨w.heap.size+1,2,none⟩ (.int .i64 c)).ownsRow base t sz v n xs:=by
 refine⟨hr.1,?_⟩
 rcases hr.2 with h0| ⟨g,cap,cur,hv,hb,hg,rest⟩
 · exact .inl h0
 · have n1:g≠w.heap.size:=by
    rintro rfl
    have:=h.st
    unfold StB at this
    rw[this] at hg
    simp only[Option.some.injEq,Obj.cells.injEq] at hg
    exact h1 hg.2.1
   have n2:g≠w.heap.size+1:=by
    rintro rfl
    have:=h.ft
    unfold FtB at this
    rw[this] at hg
    simp only[Option.some.injEq,Obj.cells.injEq] at hg
    exact h2 hg.2.1
   refine .inr ⟨g,cap,cur,hv,hb,?_,rest⟩
   rw[Below.heap_setCell _ _ _ _ n2,Below.heap_setCell _ _ _ _ n2,Below.heap_setCell _ _ _ _ n2,Below.heap_setCell _ _ _ _ n1,Below.heap_setCell _ _ _ _ n1,Below.heap_setCell _ _ _ _ n1,Below.heap_setCell _ _ _ _ n1,Below.heap_setCell _ _ _ _ n1,Below.heap_setCell _ _ _ _ n1,Below.heap_setCell _ _ _ _ n1,Below.heap_setCell _ _ _ _ n1,Below.heap_setCell _ _ _ _ n1,Below.heap_setCell _ _ _ _ n1,Below.heap_setCell _ _ _ _ n1,Below.heap_setCell _ _ _ _ n1]
   exact hg
theorem oneR_results {W:World} {tmps:Array Value} {b f:Nat} {x:St} {nv iv:Value} {e l c:Int} (hs:StB W b x nv iv) (hf:FtB W f e l c) (at_:Int) (h4:tmps[4]?.getD undef=.pointer (some ⟨b,0,none⟩)) (h5:tmps[5]?.getD undef=.int .i64 at_) (h6:tmps[6]?.getD undef=.pointer (some ⟨f,0,none⟩)) :
 (results Tryz.f12 tmps).run Tryz.prog W=.ok (.tuple #[stV x nv iv,.int .i64 at_,.agg #[.int .i64 e,.int .i64 l,.int .i64 c]]) W:=by
 obtain⟨q0,q1,q2,q3,q4,q5,q6,q7,q8,q9,q10,q11⟩:=hs.facts
 obtain⟨u0,u1,u2⟩:=hf.facts
 simp[results,Tryz.results12,go_sem,h4,h5,h6,q0,q1,q2,q3,q4,q5,q6,q7,q8,q9,q10,q11,u0,u1,u2,stV]
end Go.Proofs.YthlofmnmacpogaaGreatDoor
