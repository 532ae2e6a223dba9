/- A part of a proof of DeclReadsProof. -/
import Derived.Test.YthlofmnmacpogaaGreatDoorRt36
set_option maxRecDepth 100000
set_option maxHeartbeats 40000000
namespace Go.Proofs.YthlofmnmacpogaaGreatDoor
open Go.RowKit
theorem rdsentry_any {w:World} {B:Nat} {lv:Value} {T:List Tk} (h:TkIn w B lv T) (hB:B≤w.heap.size) (r:RS) {nv iv:Value} (hnm:NmRow w nv r.x.names) (hit:ItRow w iv r.x.ifs) (hc:Clr T r) :
 Calls Tryz.prog 50 #[lv,pvV r nv iv] w (RdP w (sentryD T r)):=by
 have hTl:T.length≤1000000:=by obtain⟨_,_,_,hl,_⟩:=h;exact hl
 have HNM:=Lh hnm
 have HIT:=Lh hit
 obtain⟨ad1,n1,cap1,rfl⟩:=hnm.sl
 obtain⟨ad2,n2,cap2,rfl⟩:=hit.sl
 have PE:=pent w r (.slice ad1 n1 cap1) (.slice ad2 n2 cap2)
 obtain⟨W0,hW0⟩:∃ W,((w.alloc (.cells #[.int .i64 r.x.kind,.string r.x.name,.int .i64 r.x.line,.int .i64 r.x.col,.int .i64 r.x.init,.slice ad1 n1 cap1,.string r.x.role,.string r.x.stage,.string r.x.event,.int .i64 r.x.times,.slice ad2 n2 cap2,.bool r.x.final,.int .i64 r.i,.int .i64 r.er,.int .i64 r.line,.int .i64 r.col] 62)).alloc oB4)=W:=⟨_,rfl⟩
 rw[hW0] at PE
 have p0:=PE.p
 have q0:=PE.q
 have HB0:=Lh PE.lo
 have HTK:Hid (∀ W,Below w.heap.size w W→TkIn W B lv T):=fun W hW=>h.below (hW.mono hB)
 have HBB:=Lh hB
 have HCL:=Lh hc
 obtain⟨c0,c1,c2,c3,c4,c5,c6,c7,c8,c9,c10,c11,c12,c13,c14,c15⟩:=p0.facts
 obtain⟨y0,y1,y2,y3,y4,y5,y6,y7,y8,y9,y10,y11,y12,y13,y14,y15⟩:=p0.free
 clear h hB hnm hit PE hc
 rw[pv_is r]
 by_cases he:r.er=0
 · have heb: (r.er == 0)=true:=by rw[beq_iff_eq];exact he
   have HI:=Lh (rdis_any (HTK.out _ HB0.out) (Nat.le_trans HBB.out HB0.out.size) r.i 2 wOn)
   cases hq:isTk T r.i 2 wOn
   · obtain⟨R1,hR1⟩:∃ R,R=r:=⟨_,rfl⟩
     have HU:Hid (onD T r=R1):=by unfold Hid onD;rw[hR1,if_neg (by rw[mayB_good he,hq];decide)]
     have HR1:Hid (R1.x.names=r.x.names∧R1.x.ifs=r.x.ifs):=by rw[hR1];exact⟨rfl,rfl⟩
     have CL1:Hid (Clr T R1):=by rw[hR1];exact HCL
     rw[hq] at HI
     clear hq he
     go_enter Tryz.func50,Tryz.ntmps50
     go_wp2_with (first| (refine lP rfl rfl rfl (by assumption) ?_)| (refine sP rfl rfl rfl rfl (by assumption) ?_)|fail)
     refine HI.out.mono ?_
     rintro en w1 ⟨rfl,hb1⟩
     have p1:=p0.below hb1
     have q1:=q0.below hb1
     have HB1:=Lh (HB0.out.trans (hb1.mono HB0.out.size))
     rw[←hR1] at p1
     obtain⟨h0,h1,h2,h3,h4,h5,h6,h7,h8,h9,h10,h11,h12,h13,h14,h15⟩:=p1.facts
     clear hb1 p0 q0 HI
     replace hR1:=Lh hR1
     by_cases her:R1.er=0
     · have hrb: (R1.er !=0)=false:=by simpa using her
       have HI:=Lh (rdis_any (HTK.out _ HB1.out) (Nat.le_trans HBB.out HB1.out.size) R1.i 2 wIf)
       cases hq:isTk T R1.i 2 wIf
       · have HF:Hid (sentryD T r=R1):=by unfold Hid sentryD;rw[HU.out,if_neg (by rw[mayB_good her,hq];decide)]
         rw[hq] at HI
         clear hq her
         go_wp2_with (first| (refine lP rfl rfl rfl (by assumption) ?_)| (refine sP rfl rfl rfl rfl (by assumption) ?_)|fail)
         refine HI.out.mono ?_
         rintro en w7 ⟨rfl,hb7⟩
         have p7:=p1.below hb7
         have q7:=q1.below hb7
         have HB7:=Lh (HB1.out.trans (hb7.mono HB1.out.size))
         clear hb7 p1 q1
         go_wp2_with (first| (refine lP rfl rfl rfl (by assumption) ?_)| (refine sP rfl rfl rfl rfl (by assumption) ?_)|fail)
         unfold Hid
         intro W9 qe ke
         have hbe:=ke.below HB7.out (show w.heap.size≤w.heap.size+1 by omega)
         have hnm9:NmRow W9 (.slice ad1 n1 cap1) R1.x.names:=by rw[HR1.out.1];exact HNM.out.keep hbe
         have hit9:ItRow W9 (.slice ad2 n2 cap2) R1.x.ifs:=by rw[HR1.out.2];exact HIT.out.keep hbe
         go_wp2
         exact bodyPost_ret (run_resP (by rfl) (by rfl) qe) rfl ⟨_,_,_,rfl,by rw[HF.out];exact EqR.refl _,hnm9,hit9,hbe⟩
       · have HIN:=Lh (isTk_in hq (by decide))
         have HZ:Hid (R1.line=0∧R1.col=0):=(CL1.out her).2
         have HF:Hid (sentryD T r=ifD T { R1 with i:=R1.i+1 }):=by
          unfold Hid sentryD
          rw[HU.out,if_pos (by rw[mayB_good her,hq])]
          unfold mayD
          rw[if_pos (by rw[mayB_good her,hq])]
         rw[hq] at HI
         have hwr:IntKind.i64.wrap (R1.i+1)=R1.i+1:=IntWalk.i64_in _ ⟨by have:=HIN.out;omega,by have:=HIN.out;omega⟩
         have HER:=Lh her
         clear hq her
         go_wp2_with (first| (refine lP rfl rfl rfl (by assumption) ?_)| (refine sP rfl rfl rfl rfl (by assumption) ?_)|fail)
         refine HI.out.mono ?_
         rintro en w7 ⟨rfl,hb7⟩
         have p7:=p1.below hb7
         have q7:=q1.below hb7
         have HB7:=Lh (HB1.out.trans (hb7.mono HB1.out.size))
         obtain⟨a0,a1,a2,a3,a4,a5,a6,a7,a8,a9,a10,a11,a12,a13,a14,a15⟩:=p7.facts
         have HRD:=Lh (rread_any (HTK.out _ HB7.out) (Nat.le_trans HBB.out HB7.out.size) (R1.i+1) false (by have:=HIN.out;omega) (by have:=HIN.out;omega))
         clear hb7 p1 q1 HI
         go_wp2_with (first| (refine lP rfl rfl rfl (by assumption) ?_)| (refine sP rfl rfl rfl rfl (by assumption) ?_)|fail)
         refine HRD.out.mono ?_
         have HLT7:=Lh (And.intro p7.lt q7.lt)
         cases hp:readP T false (R1.i+1) with
         | ok o1 a1=>
           have HIFD:Hid (sentryD T r= { R1 with i:=a1,x:={ R1.x with ifs:=o1 } }):=by unfold Hid;rw[HF.out];unfold ifD;rw[show readP T false ({ R1 with i:=R1.i+1 }:RS).i=.ok o1 a1 from hp];rfl
           rintro en w8 ⟨v8,rfl,own8,hb8⟩
           obtain⟨ad8,cap8,rfl⟩:=owns_len own8
           have hal8:=(Below.refl w8.heap.size w8).alloc (Nat.le_refl _) oB3
           have p8:=(p7.below hb8).below hal8
           have q8:=(q7.below hb8).below hal8
           have ft8:FtB (w8.alloc oB3) w8.heap.size 0 0 0:=heap_alloc_new w8 _
           have HB8:=Lh ((HB7.out.trans (hb8.mono HB7.out.size)).trans (hal8.mono (Nat.le_trans HB7.out.size hb8.size)))
           have hlt8:w.heap.size+1 < w8.heap.size:=Nat.lt_of_lt_of_le HLT7.out.2 hb8.size
           have ROW:Hid (ItRow (w8.alloc oB3) (.slice ad8 o1.length cap8) o1):=⟨_,owns_below own8 hal8⟩
           clear own8 hp
           obtain⟨W8,hW8⟩:∃ W,(w8.alloc oB3)=W:=⟨_,rfl⟩
           rw[hW8] at p8 q8 ft8 HB8 ROW
           replace hW8:=Lh hW8
           have HFT8:=Lh ft8
           clear hb8 hal8 p7 q7
           go_upto_region 9 with fail
           rw[hW8.out]
           obtain⟨t0,t1,t2⟩:=ft8.facts
           obtain⟨d0,d1,d2,d3,d4,d5,d6,d7,d8,d9,d10,d11,d12,d13,d14,d15⟩:=p8.facts
           obtain⟨e0,e1,e2,e3,e4,e5,e6,e7,e8,e9,e10,e11,e12,e13,e14,e15⟩:=p8.free
           obtain⟨V1,hV1⟩:∃ W,(W8.setCell ⟨w.heap.size,10,none⟩ (.slice ad8 o1.length cap8))=W:=⟨_,rfl⟩
           have p9:=p8.putIv o1 (.slice ad8 o1.length cap8)
           have q9:=q8.over (show w.heap.size+1≠w.heap.size by omega) (.slice ad8 o1.length cap8) (j:=10)
           have hbV1:=HB8.out.setCell (p:=⟨w.heap.size,10,none⟩) (Nat.le_refl _) (.slice ad8 o1.length cap8)
           rw[hV1] at p9 q9 hbV1
           have HB9:=Lh hbV1
           clear hbV1
           have ft9:FtB V1 w8.heap.size 0 0 0:=by rw[←hV1];exact HFT8.out.over1 (show w8.heap.size≠w.heap.size by omega) _
           have ROW9:Hid (ItRow V1 (.slice ad8 o1.length cap8) o1):=by unfold Hid;rw[←hV1];exact(KeptP.cell W8 w.heap.size 10 (.slice ad8 o1.length cap8)).it p8 ROW.out
           obtain⟨f0,f1,f2,f3,f4,f5,f6,f7,f8,f9,f10,f11,f12,f13,f14,f15⟩:=p9.facts
           obtain⟨g0,g1,g2,g3,g4,g5,g6,g7,g8,g9,g10,g11,g12,g13,g14,g15⟩:=p9.free
           obtain⟨V2,hV2⟩:∃ W,(V1.setCell ⟨w.heap.size,12,none⟩ (.int .i64 a1))=W:=⟨_,rfl⟩
           have pa:=p9.putI a1
           have qa:=q9.over (show w.heap.size+1≠w.heap.size by omega) (.int .i64 a1) (j:=12)
           have hbV2:=HB9.out.setCell (p:=⟨w.heap.size,12,none⟩) (Nat.le_refl _) (.int .i64 a1)
           rw[hV2] at pa qa hbV2
           have HBa:=Lh hbV2
           clear hbV2
           have fta:FtB V2 w8.heap.size 0 0 0:=by rw[←hV2];exact ft9.over1 (show w8.heap.size≠w.heap.size by omega) _
           have ROWa:Hid (ItRow V2 (.slice ad8 o1.length cap8) o1):=by unfold Hid;rw[←hV2];exact(KeptP.cell V1 w.heap.size 12 (.int .i64 a1)).it p9 ROW9.out
           obtain⟨s0,s1,s2⟩:=fta.facts
           obtain⟨b0,b1,b2,b3,b4,b5,b6,b7,b8,b9,b10,b11,b12,b13,b14,b15⟩:=pa.facts
           obtain⟨u0,u1,u2,u3,u4,u5,u6,u7,u8,u9,u10,u11,u12,u13,u14,u15⟩:=pa.free
           obtain⟨V3,hV3⟩:∃ W,(((V2.setCell ⟨w.heap.size,13,none⟩ (.int .i64 0)).setCell ⟨w.heap.size,14,none⟩ (.int .i64 0)).setCell ⟨w.heap.size,15,none⟩ (.int .i64 0))=W:=⟨_,rfl⟩
           have k3:KeptP V2 V3 w.heap.size:=by rw[←hV3];exact((KeptP.cell _ _ _ _).trans (KeptP.cell _ _ _ _)).trans (KeptP.cell _ _ _ _)
           have pb:=pa.putF 0 0 0
           rw[hV3] at pb
           have qb:=k3.pb qa (show w.heap.size+1≠w.heap.size by omega)
           have HBb:=Lh (k3.below HBa.out (Nat.le_refl _))
           have ROWb:=Lh (k3.it pa ROWa.out)
           clear p8 q8 p9 q9 pa qa ft8 ft9 fta k3
           have HEQ:Hid (EqR (setBad 0 0 0 ({ ({ R1 with x:={ R1.x with ifs:=o1 } }:RS) with i:=a1 }:RS)) (sentryD T r)):=by
            have: (setBad 0 0 0 ({ ({ R1 with x:={ R1.x with ifs:=o1 } }:RS) with i:=a1 }:RS))=sentryD T r:=by
             rw[HIFD.out];unfold setBad;dsimp only;rw[HER.out,HZ.out.1,HZ.out.2]
            unfold Hid;rw[this];exact EqR.refl _
           go_wp2_with (first| (refine lP rfl rfl rfl (by assumption) ?_)| (refine sP rfl rfl rfl rfl (by assumption) ?_)|fail)
           unfold Hid
           intro W9 qe ke
           have hbe:=ke.below HBb.out (show w.heap.size≤w.heap.size+1 by omega)
           have hnm9:NmRow W9 (.slice ad1 n1 cap1) (setBad 0 0 0 ({ ({ R1 with x:={ R1.x with ifs:=o1 } }:RS) with i:=a1 }:RS)).x.names:=by rw[show(setBad 0 0 0 ({ ({ R1 with x:={ R1.x with ifs:=o1 } }:RS) with i:=a1 }:RS)).x.names=r.x.names from HR1.out.1];exact HNM.out.keep hbe
           have hit9:ItRow W9 (.slice ad8 o1.length cap8) (setBad 0 0 0 ({ ({ R1 with x:={ R1.x with ifs:=o1 } }:RS) with i:=a1 }:RS)).x.ifs:=ke.it qb ROWb.out
           go_wp2
           exact bodyPost_ret (run_resP (by rfl) (by rfl) qe) rfl ⟨_,_,_,rfl,HEQ.out,hnm9,hit9,hbe⟩
         | bad er1 ln1 cl1=>
           have HIFD:Hid (sentryD T r=setBad er1 ln1 cl1 { R1 with i:=R1.i+1 }):=by unfold Hid;rw[HF.out];unfold ifD;rw[show readP T false ({ R1 with i:=R1.i+1 }:RS).i=.bad er1 ln1 cl1 from hp]
           have HNO:=Lh (readD_no hp)
           rintro en w8 ⟨rfl,hb8⟩
           have hal8:=(Below.refl w8.heap.size w8).alloc (Nat.le_refl _) (.cells #[.int .i64 er1,.int .i64 ln1,.int .i64 cl1] 28)
           have p8:=(p7.below hb8).below hal8
           have q8:=(q7.below hb8).below hal8
           have ft8:FtB (w8.alloc (.cells #[.int .i64 er1,.int .i64 ln1,.int .i64 cl1] 28)) w8.heap.size er1 ln1 cl1:=heap_alloc_new w8 _
           have HB8:=Lh ((HB7.out.trans (hb8.mono HB7.out.size)).trans (hal8.mono (Nat.le_trans HB7.out.size hb8.size)))
           have hlt8:w.heap.size+1 < w8.heap.size:=Nat.lt_of_lt_of_le HLT7.out.2 hb8.size
           have ROW:Hid (ItRow (w8.alloc (.cells #[.int .i64 er1,.int .i64 ln1,.int .i64 cl1] 28)) (.slice none 0 0) []):=⟨0,World.ownsRow_nil _ _ _ _⟩
           clear hp
           obtain⟨W8,hW8⟩:∃ W,(w8.alloc (.cells #[.int .i64 er1,.int .i64 ln1,.int .i64 cl1] 28))=W:=⟨_,rfl⟩
           rw[hW8] at p8 q8 ft8 HB8 ROW
           replace hW8:=Lh hW8
           have HFT8:=Lh ft8
           clear hb8 hal8 p7 q7
           go_upto_region 9 with fail
           rw[hW8.out]
           obtain⟨t0,t1,t2⟩:=ft8.facts
           obtain⟨d0,d1,d2,d3,d4,d5,d6,d7,d8,d9,d10,d11,d12,d13,d14,d15⟩:=p8.facts
           obtain⟨e0,e1,e2,e3,e4,e5,e6,e7,e8,e9,e10,e11,e12,e13,e14,e15⟩:=p8.free
           obtain⟨V1,hV1⟩:∃ W,(W8.setCell ⟨w.heap.size,10,none⟩ (.slice none 0 0))=W:=⟨_,rfl⟩
           have p9:=p8.putIv [] (.slice none 0 0)
           have q9:=q8.over (show w.heap.size+1≠w.heap.size by omega) (.slice none 0 0) (j:=10)
           have hbV1:=HB8.out.setCell (p:=⟨w.heap.size,10,none⟩) (Nat.le_refl _) (.slice none 0 0)
           rw[hV1] at p9 q9 hbV1
           have HB9:=Lh hbV1
           clear hbV1
           have ft9:FtB V1 w8.heap.size er1 ln1 cl1:=by rw[←hV1];exact HFT8.out.over1 (show w8.heap.size≠w.heap.size by omega) _
           have ROW9:Hid (ItRow V1 (.slice none 0 0) []):=by unfold Hid;rw[←hV1];exact(KeptP.cell W8 w.heap.size 10 (.slice none 0 0)).it p8 ROW.out
           obtain⟨f0,f1,f2,f3,f4,f5,f6,f7,f8,f9,f10,f11,f12,f13,f14,f15⟩:=p9.facts
           obtain⟨g0,g1,g2,g3,g4,g5,g6,g7,g8,g9,g10,g11,g12,g13,g14,g15⟩:=p9.free
           obtain⟨V2,hV2⟩:∃ W,(V1.setCell ⟨w.heap.size,12,none⟩ (.int .i64 0))=W:=⟨_,rfl⟩
           have pa:=p9.putI 0
           have qa:=q9.over (show w.heap.size+1≠w.heap.size by omega) (.int .i64 0) (j:=12)
           have hbV2:=HB9.out.setCell (p:=⟨w.heap.size,12,none⟩) (Nat.le_refl _) (.int .i64 0)
           rw[hV2] at pa qa hbV2
           have HBa:=Lh hbV2
           clear hbV2
           have fta:FtB V2 w8.heap.size er1 ln1 cl1:=by rw[←hV2];exact ft9.over1 (show w8.heap.size≠w.heap.size by omega) _
           have ROWa:Hid (ItRow V2 (.slice none 0 0) []):=by unfold Hid;rw[←hV2];exact(KeptP.cell V1 w.heap.size 12 (.int .i64 0)).it p9 ROW9.out
           obtain⟨s0,s1,s2⟩:=fta.facts
           obtain⟨b0,b1,b2,b3,b4,b5,b6,b7,b8,b9,b10,b11,b12,b13,b14,b15⟩:=pa.facts
           obtain⟨u0,u1,u2,u3,u4,u5,u6,u7,u8,u9,u10,u11,u12,u13,u14,u15⟩:=pa.free
           obtain⟨V3,hV3⟩:∃ W,(((V2.setCell ⟨w.heap.size,13,none⟩ (.int .i64 er1)).setCell ⟨w.heap.size,14,none⟩ (.int .i64 ln1)).setCell ⟨w.heap.size,15,none⟩ (.int .i64 cl1))=W:=⟨_,rfl⟩
           have k3:KeptP V2 V3 w.heap.size:=by rw[←hV3];exact((KeptP.cell _ _ _ _).trans (KeptP.cell _ _ _ _)).trans (KeptP.cell _ _ _ _)
           have pb:=pa.putF er1 ln1 cl1
           rw[hV3] at pb
           have qb:=k3.pb qa (show w.heap.size+1≠w.heap.size by omega)
           have HBb:=Lh (k3.below HBa.out (Nat.le_refl _))
           have ROWb:=Lh (k3.it pa ROWa.out)
           clear p8 q8 p9 q9 pa qa ft8 ft9 fta k3
           go_wp2_with (first| (refine lP rfl rfl rfl (by assumption) ?_)| (refine sP rfl rfl rfl rfl (by assumption) ?_)|fail)
           unfold Hid
           intro W9 qe ke
           have hbe:=ke.below HBb.out (show w.heap.size≤w.heap.size+1 by omega)
           have hnm9:NmRow W9 (.slice ad1 n1 cap1) (setBad er1 ln1 cl1 ({ ({ R1 with x:={ R1.x with ifs:=[] } }:RS) with i:=0 }:RS)).x.names:=by rw[show(setBad er1 ln1 cl1 ({ ({ R1 with x:={ R1.x with ifs:=[] } }:RS) with i:=0 }:RS)).x.names=r.x.names from HR1.out.1];exact HNM.out.keep hbe
           have hit9:ItRow W9 (.slice none 0 0) (setBad er1 ln1 cl1 ({ ({ R1 with x:={ R1.x with ifs:=[] } }:RS) with i:=0 }:RS)).x.ifs:=ke.it qb ROWb.out
           go_wp2
           exact bodyPost_ret (run_resP (by rfl) (by rfl) qe) rfl ⟨_,_,_,rfl,by rw[HIFD.out];exact⟨rfl,rfl,rfl,fun h=>absurd h HNO.out⟩,hnm9,hit9,hbe⟩
     · have hrb: (R1.er !=0)=true:=by simpa using her
       have HF:Hid (sentryD T r=R1):=by unfold Hid sentryD;rw[HU.out,if_neg (by rw[mayB_bad her];decide)]
       clear her
       go_wp2_with (first| (refine lP rfl rfl rfl (by assumption) ?_)| (refine sP rfl rfl rfl rfl (by assumption) ?_)|fail)
       unfold Hid
       intro W9 qe ke
       have hbe:=ke.below HB1.out (show w.heap.size≤w.heap.size+1 by omega)
       have hnm9:NmRow W9 (.slice ad1 n1 cap1) R1.x.names:=by rw[HR1.out.1];exact HNM.out.keep hbe
       have hit9:ItRow W9 (.slice ad2 n2 cap2) R1.x.ifs:=by rw[HR1.out.2];exact HIT.out.keep hbe
       go_wp2
       exact bodyPost_ret (run_resP (by rfl) (by rfl) qe) rfl ⟨_,_,_,rfl,by rw[HF.out];exact EqR.refl _,hnm9,hit9,hbe⟩
   · have hc1:=HCL.out.step he hq (by decide)
     have HN:=fun W (hW:Below w.heap.size w W)=>rdname_any (HTK.out W hW) (Nat.le_trans HBB.out hW.size) { r with i:=r.i+1 } (nv:=(.slice ad1 n1 cap1)) (iv:=(.slice ad2 n2 cap2)) ⟨_,_,_,rfl⟩ ⟨_,_,_,rfl⟩ (fun e=>(hc1 e).1)
     obtain⟨R,hR⟩:∃ R,nameD T { r with i:=r.i+1 }=R:=⟨_,rfl⟩
     obtain⟨s,hs⟩:∃ s,nameV T { r with i:=r.i+1 }=s:=⟨_,rfl⟩
     rw[hR,hs] at HN
     replace HN:=Lh HN
     obtain⟨R1,hR1⟩:∃ R1,setEvent s R=R1:=⟨_,rfl⟩
     have HU:Hid (onD T r=R1):=by
      unfold Hid onD
      rw[if_pos (by rw[mayB_good he,hq])]
      unfold mayD
      rw[if_pos (by rw[mayB_good he,hq]),hR,hs,hR1]
     have hx:R.x=r.x:=by rw[←hR];exact takeD_x T 1 _
     have HR1:Hid (R1.x.names=r.x.names∧R1.x.ifs=r.x.ifs):=by
      rw[←hR1];exact⟨by show R.x.names=_;rw[hx],by show R.x.ifs=_;rw[hx]⟩
     have CL1:Hid (Clr T R1):=by
      rw[←hR1];have:=hc1.name;rw[hR] at this;exact this
     have HIN0:=isTk_in hq (by decide)
     have hwr0:IntKind.i64.wrap (r.i+1)=r.i+1:=IntWalk.i64_in _ ⟨by omega,by omega⟩
     rw[hq] at HI
     have HR1E:=Lh hR1
     clear hq he hR hs hx hc1 HIN0 hR1
     go_enter Tryz.func50,Tryz.ntmps50
     go_wp2_with (first| (refine lP rfl rfl rfl (by assumption) ?_)| (refine sP rfl rfl rfl rfl (by assumption) ?_)|fail)
     refine HI.out.mono ?_
     rintro en w1 ⟨rfl,hb1⟩
     have p1:=p0.below hb1
     have q1:=q0.below hb1
     have HB1:=Lh (HB0.out.trans (hb1.mono HB0.out.size))
     obtain⟨d0,d1,d2,d3,d4,d5,d6,d7,d8,d9,d10,d11,d12,d13,d14,d15⟩:=p1.facts
     obtain⟨e0,e1,e2,e3,e4,e5,e6,e7,e8,e9,e10,e11,e12,e13,e14,e15⟩:=p1.free
     obtain⟨W2,hW2⟩:∃ W,(w1.setCell ⟨w.heap.size,12,none⟩ (.int .i64 (r.i+1)))=W:=⟨_,rfl⟩
     have p2:=p1.putI (r.i+1)
     have q2:=q1.over (show w.heap.size+1≠w.heap.size by omega) (.int .i64 (r.i+1)) (j:=12)
     have hbW2:=HB1.out.setCell (p:=⟨w.heap.size,12,none⟩) (Nat.le_refl _) (.int .i64 (r.i+1))
     rw[hW2] at p2 q2 hbW2
     have HB2:=Lh hbW2
     clear hbW2
     clear hb1 p0 q0 p1 q1 HI
     go_wp2_with (first| (refine lP rfl rfl rfl (by assumption) ?_)| (refine sP rfl rfl rfl rfl (by assumption) ?_)|fail)
     refine(HN.out _ HB2.out).mono ?_
     rintro en w3 ⟨rfl,hb3⟩
     have hal:=(Below.refl w3.heap.size w3).alloc (Nat.le_refl _) oB4
     have p3:=(p2.below hb3).below hal
     have q3:=(q2.below hb3).below hal
     have z3:PB (w3.alloc oB4) w3.heap.size zeroR (.slice none 0 0) (.slice none 0 0):=heap_alloc_new w3 _
     have HB3:=Lh ((HB2.out.trans (hb3.mono HB2.out.size)).trans (hal.mono (Nat.le_trans HB2.out.size hb3.size)))
     have hlt3:w.heap.size+1 < w3.heap.size:=Nat.lt_of_lt_of_le q2.lt hb3.size
     obtain⟨W3,hW3⟩:∃ W,(w3.alloc oB4)=W:=⟨_,rfl⟩
     rw[hW3] at p3 q3 z3 HB3
     clear hb3 hal p2 q2
     go_wp2_with (first| (refine lP rfl rfl rfl (by assumption) ?_)| (refine sP rfl rfl rfl rfl (by assumption) ?_)|fail)
     unfold Hid
     intro W4 z4 k4
     have p4:=k4.pb p3 (show w.heap.size≠w3.heap.size by omega)
     have q4:=k4.pb q3 (show w.heap.size+1≠w3.heap.size by omega)
     have HB4:=Lh (k4.below HB3.out (show w.heap.size≤w3.heap.size by omega))
     clear p3 q3 z3 k4
     go_wp2_with (first| (refine lP rfl rfl rfl (by assumption) ?_)| (refine sP rfl rfl rfl rfl (by assumption) ?_)|fail)
     unfold Hid
     intro W5 p5 k5
     have q5:=k5.pb q4 (show w.heap.size+1≠w.heap.size by omega)
     have HB5:=Lh (k5.below HB4.out (Nat.le_refl _))
     obtain⟨f0,f1,f2,f3,f4,f5,f6,f7,f8,f9,f10,f11,f12,f13,f14,f15⟩:=p5.facts
     obtain⟨g0,g1,g2,g3,g4,g5,g6,g7,g8,g9,g10,g11,g12,g13,g14,g15⟩:=p5.free
     obtain⟨W6,hW6⟩:∃ W,(W5.setCell ⟨w.heap.size,8,none⟩ (.string s))=W:=⟨_,rfl⟩
     have p6:=p5.putEvent s
     have q6:=q5.over (show w.heap.size+1≠w.heap.size by omega) (.string s) (j:=8)
     have hbW6:=HB5.out.setCell (p:=⟨w.heap.size,8,none⟩) (Nat.le_refl _) (.string s)
     rw[hW6] at p6 q6 hbW6
     have HB6:=Lh hbW6
     clear hbW6
     rw[HR1E.out] at p6
     obtain⟨h0,h1,h2,h3,h4,h5,h6,h7,h8,h9,h10,h11,h12,h13,h14,h15⟩:=p6.facts
     clear p4 q4 z4 k5 p5 q5
     by_cases her:R1.er=0
     · have hrb: (R1.er !=0)=false:=by simpa using her
       have HI:=Lh (rdis_any (HTK.out _ HB6.out) (Nat.le_trans HBB.out HB6.out.size) R1.i 2 wIf)
       cases hq:isTk T R1.i 2 wIf
       · have HF:Hid (sentryD T r=R1):=by unfold Hid sentryD;rw[HU.out,if_neg (by rw[mayB_good her,hq];decide)]
         rw[hq] at HI
         clear hq her
         go_wp2_with (first| (refine lP rfl rfl rfl (by assumption) ?_)| (refine sP rfl rfl rfl rfl (by assumption) ?_)|fail)
         refine HI.out.mono ?_
         rintro en w7 ⟨rfl,hb7⟩
         have p7:=p6.below hb7
         have q7:=q6.below hb7
         have HB7:=Lh (HB6.out.trans (hb7.mono HB6.out.size))
         clear hb7 p6 q6
         go_wp2_with (first| (refine lP rfl rfl rfl (by assumption) ?_)| (refine sP rfl rfl rfl rfl (by assumption) ?_)|fail)
         unfold Hid
         intro W9 qe ke
         have hbe:=ke.below HB7.out (show w.heap.size≤w.heap.size+1 by omega)
         have hnm9:NmRow W9 (.slice ad1 n1 cap1) R1.x.names:=by rw[HR1.out.1];exact HNM.out.keep hbe
         have hit9:ItRow W9 (.slice ad2 n2 cap2) R1.x.ifs:=by rw[HR1.out.2];exact HIT.out.keep hbe
         go_wp2
         exact bodyPost_ret (run_resP (by rfl) (by rfl) qe) rfl ⟨_,_,_,rfl,by rw[HF.out];exact EqR.refl _,hnm9,hit9,hbe⟩
       · have HIN:=Lh (isTk_in hq (by decide))
         have HZ:Hid (R1.line=0∧R1.col=0):=(CL1.out her).2
         have HF:Hid (sentryD T r=ifD T { R1 with i:=R1.i+1 }):=by
          unfold Hid sentryD
          rw[HU.out,if_pos (by rw[mayB_good her,hq])]
          unfold mayD
          rw[if_pos (by rw[mayB_good her,hq])]
         rw[hq] at HI
         have hwr:IntKind.i64.wrap (R1.i+1)=R1.i+1:=IntWalk.i64_in _ ⟨by have:=HIN.out;omega,by have:=HIN.out;omega⟩
         have HER:=Lh her
         clear hq her
         go_wp2_with (first| (refine lP rfl rfl rfl (by assumption) ?_)| (refine sP rfl rfl rfl rfl (by assumption) ?_)|fail)
         refine HI.out.mono ?_
         rintro en w7 ⟨rfl,hb7⟩
         have p7:=p6.below hb7
         have q7:=q6.below hb7
         have HB7:=Lh (HB6.out.trans (hb7.mono HB6.out.size))
         obtain⟨a0,a1,a2,a3,a4,a5,a6,a7,a8,a9,a10,a11,a12,a13,a14,a15⟩:=p7.facts
         have HRD:=Lh (rread_any (HTK.out _ HB7.out) (Nat.le_trans HBB.out HB7.out.size) (R1.i+1) false (by have:=HIN.out;omega) (by have:=HIN.out;omega))
         clear hb7 p6 q6 HI
         go_wp2_with (first| (refine lP rfl rfl rfl (by assumption) ?_)| (refine sP rfl rfl rfl rfl (by assumption) ?_)|fail)
         refine HRD.out.mono ?_
         have HLT7:=Lh (And.intro p7.lt q7.lt)
         cases hp:readP T false (R1.i+1) with
         | ok o1 a1=>
           have HIFD:Hid (sentryD T r= { R1 with i:=a1,x:={ R1.x with ifs:=o1 } }):=by unfold Hid;rw[HF.out];unfold ifD;rw[show readP T false ({ R1 with i:=R1.i+1 }:RS).i=.ok o1 a1 from hp];rfl
           rintro en w8 ⟨v8,rfl,own8,hb8⟩
           obtain⟨ad8,cap8,rfl⟩:=owns_len own8
           have hal8:=(Below.refl w8.heap.size w8).alloc (Nat.le_refl _) oB3
           have p8:=(p7.below hb8).below hal8
           have q8:=(q7.below hb8).below hal8
           have ft8:FtB (w8.alloc oB3) w8.heap.size 0 0 0:=heap_alloc_new w8 _
           have HB8:=Lh ((HB7.out.trans (hb8.mono HB7.out.size)).trans (hal8.mono (Nat.le_trans HB7.out.size hb8.size)))
           have hlt8:w.heap.size+1 < w8.heap.size:=Nat.lt_of_lt_of_le HLT7.out.2 hb8.size
           have ROW:Hid (ItRow (w8.alloc oB3) (.slice ad8 o1.length cap8) o1):=⟨_,owns_below own8 hal8⟩
           clear own8 hp
           obtain⟨W8,hW8⟩:∃ W,(w8.alloc oB3)=W:=⟨_,rfl⟩
           rw[hW8] at p8 q8 ft8 HB8 ROW
           replace hW8:=Lh hW8
           have HFT8:=Lh ft8
           clear hb8 hal8 p7 q7
           go_upto_region 9 with fail
           rw[hW8.out]
           obtain⟨t0,t1,t2⟩:=ft8.facts
           obtain⟨d0,d1,d2,d3,d4,d5,d6,d7,d8,d9,d10,d11,d12,d13,d14,d15⟩:=p8.facts
           obtain⟨e0,e1,e2,e3,e4,e5,e6,e7,e8,e9,e10,e11,e12,e13,e14,e15⟩:=p8.free
           obtain⟨V1,hV1⟩:∃ W,(W8.setCell ⟨w.heap.size,10,none⟩ (.slice ad8 o1.length cap8))=W:=⟨_,rfl⟩
           have p9:=p8.putIv o1 (.slice ad8 o1.length cap8)
           have q9:=q8.over (show w.heap.size+1≠w.heap.size by omega) (.slice ad8 o1.length cap8) (j:=10)
           have hbV1:=HB8.out.setCell (p:=⟨w.heap.size,10,none⟩) (Nat.le_refl _) (.slice ad8 o1.length cap8)
           rw[hV1] at p9 q9 hbV1
           have HB9:=Lh hbV1
           clear hbV1
           have ft9:FtB V1 w8.heap.size 0 0 0:=by rw[←hV1];exact HFT8.out.over1 (show w8.heap.size≠w.heap.size by omega) _
           have ROW9:Hid (ItRow V1 (.slice ad8 o1.length cap8) o1):=by unfold Hid;rw[←hV1];exact(KeptP.cell W8 w.heap.size 10 (.slice ad8 o1.length cap8)).it p8 ROW.out
           obtain⟨f0,f1,f2,f3,f4,f5,f6,f7,f8,f9,f10,f11,f12,f13,f14,f15⟩:=p9.facts
           obtain⟨g0,g1,g2,g3,g4,g5,g6,g7,g8,g9,g10,g11,g12,g13,g14,g15⟩:=p9.free
           obtain⟨V2,hV2⟩:∃ W,(V1.setCell ⟨w.heap.size,12,none⟩ (.int .i64 a1))=W:=⟨_,rfl⟩
           have pa:=p9.putI a1
           have qa:=q9.over (show w.heap.size+1≠w.heap.size by omega) (.int .i64 a1) (j:=12)
           have hbV2:=HB9.out.setCell (p:=⟨w.heap.size,12,none⟩) (Nat.le_refl _) (.int .i64 a1)
           rw[hV2] at pa qa hbV2
           have HBa:=Lh hbV2
           clear hbV2
           have fta:FtB V2 w8.heap.size 0 0 0:=by rw[←hV2];exact ft9.over1 (show w8.heap.size≠w.heap.size by omega) _
           have ROWa:Hid (ItRow V2 (.slice ad8 o1.length cap8) o1):=by unfold Hid;rw[←hV2];exact(KeptP.cell V1 w.heap.size 12 (.int .i64 a1)).it p9 ROW9.out
           obtain⟨s0,s1,s2⟩:=fta.facts
           obtain⟨b0,b1,b2,b3,b4,b5,b6,b7,b8,b9,b10,b11,b12,b13,b14,b15⟩:=pa.facts
           obtain⟨u0,u1,u2,u3,u4,u5,u6,u7,u8,u9,u10,u11,u12,u13,u14,u15⟩:=pa.free
           obtain⟨V3,hV3⟩:∃ W,(((V2.setCell ⟨w.heap.size,13,none⟩ (.int .i64 0)).setCell ⟨w.heap.size,14,none⟩ (.int .i64 0)).setCell ⟨w.heap.size,15,none⟩ (.int .i64 0))=W:=⟨_,rfl⟩
           have k3:KeptP V2 V3 w.heap.size:=by rw[←hV3];exact((KeptP.cell _ _ _ _).trans (KeptP.cell _ _ _ _)).trans (KeptP.cell _ _ _ _)
           have pb:=pa.putF 0 0 0
           rw[hV3] at pb
           have qb:=k3.pb qa (show w.heap.size+1≠w.heap.size by omega)
           have HBb:=Lh (k3.below HBa.out (Nat.le_refl _))
           have ROWb:=Lh (k3.it pa ROWa.out)
           clear p8 q8 p9 q9 pa qa ft8 ft9 fta k3
           have HEQ:Hid (EqR (setBad 0 0 0 ({ ({ R1 with x:={ R1.x with ifs:=o1 } }:RS) with i:=a1 }:RS)) (sentryD T r)):=by
            have: (setBad 0 0 0 ({ ({ R1 with x:={ R1.x with ifs:=o1 } }:RS) with i:=a1 }:RS))=sentryD T r:=by
             rw[HIFD.out];unfold setBad;dsimp only;rw[HER.out,HZ.out.1,HZ.out.2]
            unfold Hid;rw[this];exact EqR.refl _
           go_wp2_with (first| (refine lP rfl rfl rfl (by assumption) ?_)| (refine sP rfl rfl rfl rfl (by assumption) ?_)|fail)
           unfold Hid
           intro W9 qe ke
           have hbe:=ke.below HBb.out (show w.heap.size≤w.heap.size+1 by omega)
           have hnm9:NmRow W9 (.slice ad1 n1 cap1) (setBad 0 0 0 ({ ({ R1 with x:={ R1.x with ifs:=o1 } }:RS) with i:=a1 }:RS)).x.names:=by rw[show(setBad 0 0 0 ({ ({ R1 with x:={ R1.x with ifs:=o1 } }:RS) with i:=a1 }:RS)).x.names=r.x.names from HR1.out.1];exact HNM.out.keep hbe
           have hit9:ItRow W9 (.slice ad8 o1.length cap8) (setBad 0 0 0 ({ ({ R1 with x:={ R1.x with ifs:=o1 } }:RS) with i:=a1 }:RS)).x.ifs:=ke.it qb ROWb.out
           go_wp2
           exact bodyPost_ret (run_resP (by rfl) (by rfl) qe) rfl ⟨_,_,_,rfl,HEQ.out,hnm9,hit9,hbe⟩
         | bad er1 ln1 cl1=>
           have HIFD:Hid (sentryD T r=setBad er1 ln1 cl1 { R1 with i:=R1.i+1 }):=by unfold Hid;rw[HF.out];unfold ifD;rw[show readP T false ({ R1 with i:=R1.i+1 }:RS).i=.bad er1 ln1 cl1 from hp]
           have HNO:=Lh (readD_no hp)
           rintro en w8 ⟨rfl,hb8⟩
           have hal8:=(Below.refl w8.heap.size w8).alloc (Nat.le_refl _) (.cells #[.int .i64 er1,.int .i64 ln1,.int .i64 cl1] 28)
           have p8:=(p7.below hb8).below hal8
           have q8:=(q7.below hb8).below hal8
           have ft8:FtB (w8.alloc (.cells #[.int .i64 er1,.int .i64 ln1,.int .i64 cl1] 28)) w8.heap.size er1 ln1 cl1:=heap_alloc_new w8 _
           have HB8:=Lh ((HB7.out.trans (hb8.mono HB7.out.size)).trans (hal8.mono (Nat.le_trans HB7.out.size hb8.size)))
           have hlt8:w.heap.size+1 < w8.heap.size:=Nat.lt_of_lt_of_le HLT7.out.2 hb8.size
           have ROW:Hid (ItRow (w8.alloc (.cells #[.int .i64 er1,.int .i64 ln1,.int .i64 cl1] 28)) (.slice none 0 0) []):=⟨0,World.ownsRow_nil _ _ _ _⟩
           clear hp
           obtain⟨W8,hW8⟩:∃ W,(w8.alloc (.cells #[.int .i64 er1,.int .i64 ln1,.int .i64 cl1] 28))=W:=⟨_,rfl⟩
           rw[hW8] at p8 q8 ft8 HB8 ROW
           replace hW8:=Lh hW8
           have HFT8:=Lh ft8
           clear hb8 hal8 p7 q7
           go_upto_region 9 with fail
           rw[hW8.out]
           obtain⟨t0,t1,t2⟩:=ft8.facts
           obtain⟨d0,d1,d2,d3,d4,d5,d6,d7,d8,d9,d10,d11,d12,d13,d14,d15⟩:=p8.facts
           obtain⟨e0,e1,e2,e3,e4,e5,e6,e7,e8,e9,e10,e11,e12,e13,e14,e15⟩:=p8.free
           obtain⟨V1,hV1⟩:∃ W,(W8.setCell ⟨w.heap.size,10,none⟩ (.slice none 0 0))=W:=⟨_,rfl⟩
           have p9:=p8.putIv [] (.slice none 0 0)
           have q9:=q8.over (show w.heap.size+1≠w.heap.size by omega) (.slice none 0 0) (j:=10)
           have hbV1:=HB8.out.setCell (p:=⟨w.heap.size,10,none⟩) (Nat.le_refl _) (.slice none 0 0)
           rw[hV1] at p9 q9 hbV1
           have HB9:=Lh hbV1
           clear hbV1
           have ft9:FtB V1 w8.heap.size er1 ln1 cl1:=by rw[←hV1];exact HFT8.out.over1 (show w8.heap.size≠w.heap.size by omega) _
           have ROW9:Hid (ItRow V1 (.slice none 0 0) []):=by unfold Hid;rw[←hV1];exact(KeptP.cell W8 w.heap.size 10 (.slice none 0 0)).it p8 ROW.out
           obtain⟨f0,f1,f2,f3,f4,f5,f6,f7,f8,f9,f10,f11,f12,f13,f14,f15⟩:=p9.facts
           obtain⟨g0,g1,g2,g3,g4,g5,g6,g7,g8,g9,g10,g11,g12,g13,g14,g15⟩:=p9.free
           obtain⟨V2,hV2⟩:∃ W,(V1.setCell ⟨w.heap.size,12,none⟩ (.int .i64 0))=W:=⟨_,rfl⟩
           have pa:=p9.putI 0
           have qa:=q9.over (show w.heap.size+1≠w.heap.size by omega) (.int .i64 0) (j:=12)
           have hbV2:=HB9.out.setCell (p:=⟨w.heap.size,12,none⟩) (Nat.le_refl _) (.int .i64 0)
           rw[hV2] at pa qa hbV2
           have HBa:=Lh hbV2
           clear hbV2
           have fta:FtB V2 w8.heap.size er1 ln1 cl1:=by rw[←hV2];exact ft9.over1 (show w8.heap.size≠w.heap.size by omega) _
           have ROWa:Hid (ItRow V2 (.slice none 0 0) []):=by unfold Hid;rw[←hV2];exact(KeptP.cell V1 w.heap.size 12 (.int .i64 0)).it p9 ROW9.out
           obtain⟨s0,s1,s2⟩:=fta.facts
           obtain⟨b0,b1,b2,b3,b4,b5,b6,b7,b8,b9,b10,b11,b12,b13,b14,b15⟩:=pa.facts
           obtain⟨u0,u1,u2,u3,u4,u5,u6,u7,u8,u9,u10,u11,u12,u13,u14,u15⟩:=pa.free
           obtain⟨V3,hV3⟩:∃ W,(((V2.setCell ⟨w.heap.size,13,none⟩ (.int .i64 er1)).setCell ⟨w.heap.size,14,none⟩ (.int .i64 ln1)).setCell ⟨w.heap.size,15,none⟩ (.int .i64 cl1))=W:=⟨_,rfl⟩
           have k3:KeptP V2 V3 w.heap.size:=by rw[←hV3];exact((KeptP.cell _ _ _ _).trans (KeptP.cell _ _ _ _)).trans (KeptP.cell _ _ _ _)
           have pb:=pa.putF er1 ln1 cl1
           rw[hV3] at pb
           have qb:=k3.pb qa (show w.heap.size+1≠w.heap.size by omega)
           have HBb:=Lh (k3.below HBa.out (Nat.le_refl _))
           have ROWb:=Lh (k3.it pa ROWa.out)
           clear p8 q8 p9 q9 pa qa ft8 ft9 fta k3
           go_wp2_with (first| (refine lP rfl rfl rfl (by assumption) ?_)| (refine sP rfl rfl rfl rfl (by assumption) ?_)|fail)
           unfold Hid
           intro W9 qe ke
           have hbe:=ke.below HBb.out (show w.heap.size≤w.heap.size+1 by omega)
           have hnm9:NmRow W9 (.slice ad1 n1 cap1) (setBad er1 ln1 cl1 ({ ({ R1 with x:={ R1.x with ifs:=[] } }:RS) with i:=0 }:RS)).x.names:=by rw[show(setBad er1 ln1 cl1 ({ ({ R1 with x:={ R1.x with ifs:=[] } }:RS) with i:=0 }:RS)).x.names=r.x.names from HR1.out.1];exact HNM.out.keep hbe
           have hit9:ItRow W9 (.slice none 0 0) (setBad er1 ln1 cl1 ({ ({ R1 with x:={ R1.x with ifs:=[] } }:RS) with i:=0 }:RS)).x.ifs:=ke.it qb ROWb.out
           go_wp2
           exact bodyPost_ret (run_resP (by rfl) (by rfl) qe) rfl ⟨_,_,_,rfl,by rw[HIFD.out];exact⟨rfl,rfl,rfl,fun h=>absurd h HNO.out⟩,hnm9,hit9,hbe⟩
     · have hrb: (R1.er !=0)=true:=by simpa using her
       have HF:Hid (sentryD T r=R1):=by unfold Hid sentryD;rw[HU.out,if_neg (by rw[mayB_bad her];decide)]
       clear her
       go_wp2_with (first| (refine lP rfl rfl rfl (by assumption) ?_)| (refine sP rfl rfl rfl rfl (by assumption) ?_)|fail)
       unfold Hid
       intro W9 qe ke
       have hbe:=ke.below HB6.out (show w.heap.size≤w.heap.size+1 by omega)
       have hnm9:NmRow W9 (.slice ad1 n1 cap1) R1.x.names:=by rw[HR1.out.1];exact HNM.out.keep hbe
       have hit9:ItRow W9 (.slice ad2 n2 cap2) R1.x.ifs:=by rw[HR1.out.2];exact HIT.out.keep hbe
       go_wp2
       exact bodyPost_ret (run_resP (by rfl) (by rfl) qe) rfl ⟨_,_,_,rfl,by rw[HF.out];exact EqR.refl _,hnm9,hit9,hbe⟩
 · have heb: (r.er == 0)=false:=beq_eq_false_iff_ne.2 he
   have heb2: (r.er !=0)=true:=by simpa using he
   have HF:Hid (sentryD T r=r):=by
    have:onD T r=r:=by unfold onD;rw[if_neg (by rw[mayB_bad he];decide)]
    unfold Hid sentryD;rw[this,if_neg (by rw[mayB_bad he];decide)]
   clear he
   go_enter Tryz.func50,Tryz.ntmps50
   go_wp2_with (first| (refine lP rfl rfl rfl (by assumption) ?_)| (refine sP rfl rfl rfl rfl (by assumption) ?_)|fail)
   unfold Hid
   intro W9 qe ke
   have hbe:=ke.below HB0.out (show w.heap.size≤w.heap.size+1 by omega)
   have hnm9:NmRow W9 (.slice ad1 n1 cap1) r.x.names:=HNM.out.keep hbe
   have hit9:ItRow W9 (.slice ad2 n2 cap2) r.x.ifs:=HIT.out.keep hbe
   go_wp2
   exact bodyPost_ret (run_resP (by rfl) (by rfl) qe) rfl ⟨_,_,_,rfl,by rw[HF.out];exact EqR.refl _,hnm9,hit9,hbe⟩
end Go.Proofs.YthlofmnmacpogaaGreatDoor
