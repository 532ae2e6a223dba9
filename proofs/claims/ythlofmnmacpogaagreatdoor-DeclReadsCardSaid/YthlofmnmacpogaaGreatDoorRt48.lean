/- A part of a proof of DeclReadsProof. -/
import Derived.Test.YthlofmnmacpogaaGreatDoorRt46
set_option maxRecDepth 100000
set_option maxHeartbeats 40000000
namespace Go.Proofs.YthlofmnmacpogaaGreatDoor
open Go.RowKit
theorem rdone_sod {w:World} {B:Nat} {lv:Value} {T:List Tk} (h:TkIn w B lv T) (hB:B≤w.heap.size) (i:Int) (hk: (tkAt T i).kind=2) (hn:kindN (tkAt T i).text≠0) (h8:kindN (tkAt T i).text=8) :
 Calls Tryz.prog 12 #[lv,.int .i64 i] w (RdOne w (oneD T i)):=by
 have hTl:T.length≤1000000:=by obtain⟨_,_,_,hl,_⟩:=h;exact hl
 have HTK:Hid (∀ W,Below w.heap.size w W→TkIn W B lv T):=fun W hW=>h.below (hW.mono hB)
 have HBB:=Lh hB
 have hal1:Below w.heap.size w ((w.alloc oB5).alloc oB3):=((Below.refl _ _).alloc (Nat.le_refl _) _).alloc (by simp) _
 have st1:StB ((w.alloc oB5).alloc oB3) w.heap.size noSt (.slice none 0 0) (.slice none 0 0):=StB.alloc (x:=noSt) (heap_alloc_new w _) _
 have ft1:FtB ((w.alloc oB5).alloc oB3) (w.heap.size+1) 0 0 0:=heap_at_size _ _ _ (by simp)
 obtain⟨W1,hW1⟩:∃ W,((w.alloc oB5).alloc oB3)=W:=⟨_,rfl⟩
 rw[hW1] at hal1 st1 ft1
 have HT:=Lh (rdtok_any (HTK.out _ hal1) i)
 obtain⟨x,hx⟩:∃ x,tkAt T i=x:=⟨_,rfl⟩
 have HX:=Lh hx
 have H8:Hid (kindN x.text=8):=by unfold Hid;rw[←hx];exact h8
 clear h8
 have HIN:Hid (0≤i∧i < (T.length:Int)):=tk_in (fun e=>by rw[e] at hk;cases hk)
 have HIS:Hid (InD T (startD T i)):=⟨show 0≤i+1 by have:=HIN.out;omega,show i+1≤(T.length:Int) by have:=HIN.out;omega⟩
 have HO:Hid (oneD T i=if(needD T 4 sSemi (ruleD T (kindN x.text) (startD T i))).er=0 then .ok (needD T 4 sSemi (ruleD T (kindN x.text) (startD T i))).x (needD T 4 sSemi (ruleD T (kindN x.text) (startD T i))).i else .bad (needD T 4 sSemi (ruleD T (kindN x.text) (startD T i))).er (needD T 4 sSemi (ruleD T (kindN x.text) (startD T i))).line (needD T 4 sSemi (ruleD T (kindN x.text) (startD T i))).col):=by
  unfold Hid oneD
  rw[if_neg (fun h=>h.elim (fun h=>h hk) hn),hx]
 rw[hx] at hk hn
 have HKX:=Lh hx
 have hkb: (x.kind !=2)=false:=by simpa using hk
 obtain⟨K,hK⟩:∃ K,kindN x.text=K:=⟨_,rfl⟩
 have hK0: (K == 0)=false:=beq_eq_false_iff_ne.2 (by rw[←hK];exact hn)
 have HSD:Hid (startD T i= ⟨i+1,{ noSt with kind:=K,line:=x.line,col:=x.col },0,0,0⟩):=by unfold Hid startD;rw[hx,hK]
 rw[hK] at HO
 have HKE:=Lh hK
 have HK8:=kindN_in x.text
 rw[hK] at HK8
 have HNK:=fun W=>rdkind_any x.text W
 rw[hK] at HNK
 replace HNK:=Lh HNK
 replace HK8:=Lh HK8
 have hwr:IntKind.i64.wrap (i+1)=i+1:=IntWalk.i64_in _ ⟨by have:=HIN.out;omega,by have:=HIN.out;omega⟩
 clear hk hn hK
 clear h hB hx
 go_enter Tryz.func12,Tryz.ntmps12
 go_wp2_with (first| (refine lP rfl rfl rfl (by assumption) ?_)| (refine sP rfl rfl rfl rfl (by assumption) ?_)|fail)
 refine HT.out.mono ?_
 rintro en w2 ⟨rfl,hb2⟩
 rw[HX.out]
 unfold tokV
 have hs1:=ft1.lt
 have hs2:=hb2.size
 have hal2:Below w2.heap.size w2 ((w2.alloc (tO x)).alloc (.cells #[.int .i64 0,.string ⟨#[]⟩,.int .i64 0,.int .i64 0,.int .i64 0,.slice none 0 0,.string ⟨#[]⟩,.string ⟨#[]⟩,.string ⟨#[]⟩,.int .i64 0,.slice none 0 0,.bool false,.int .i64 i,.int .i64 0,.int .i64 0,.int .i64 0] 62)):=((Below.refl _ _).alloc (Nat.le_refl _) _).alloc (by simp) _
 have t2: ((w2.alloc (tO x)).alloc (.cells #[.int .i64 0,.string ⟨#[]⟩,.int .i64 0,.int .i64 0,.int .i64 0,.slice none 0 0,.string ⟨#[]⟩,.string ⟨#[]⟩,.string ⟨#[]⟩,.int .i64 0,.slice none 0 0,.bool false,.int .i64 i,.int .i64 0,.int .i64 0,.int .i64 0] 62)).heap[w2.heap.size]?=some (.cells #[.int .i64 x.kind,.string x.text,.int .i64 x.num,.int .i64 x.line,.int .i64 x.col] 48 (0,0)):=by
  rw[Below.heap_alloc _ _ _ (by simp)];exact heap_alloc_new w2 _
 have p2:PB ((w2.alloc (tO x)).alloc (.cells #[.int .i64 0,.string ⟨#[]⟩,.int .i64 0,.int .i64 0,.int .i64 0,.slice none 0 0,.string ⟨#[]⟩,.string ⟨#[]⟩,.string ⟨#[]⟩,.int .i64 0,.slice none 0 0,.bool false,.int .i64 i,.int .i64 0,.int .i64 0,.int .i64 0] 62)) (w2.heap.size+1) ⟨i,noSt,0,0,0⟩ (.slice none 0 0) (.slice none 0 0):=heap_at_size _ _ _ (by simp)
 have r2:RS1 w ((w2.alloc (tO x)).alloc (.cells #[.int .i64 0,.string ⟨#[]⟩,.int .i64 0,.int .i64 0,.int .i64 0,.slice none 0 0,.string ⟨#[]⟩,.string ⟨#[]⟩,.string ⟨#[]⟩,.int .i64 0,.slice none 0 0,.bool false,.int .i64 i,.int .i64 0,.int .i64 0,.int .i64 0] 62)) (w2.heap.size+1):=⟨(st1.below hb2).below hal2,(ft1.below hb2).below hal2,(hal1.trans (hb2.mono hal1.size)).trans (hal2.mono (Nat.le_trans hal1.size hb2.size)),by omega⟩
 obtain⟨W2,hW2⟩:∃ W,((w2.alloc (tO x)).alloc (.cells #[.int .i64 0,.string ⟨#[]⟩,.int .i64 0,.int .i64 0,.int .i64 0,.slice none 0 0,.string ⟨#[]⟩,.string ⟨#[]⟩,.string ⟨#[]⟩,.int .i64 0,.slice none 0 0,.bool false,.int .i64 i,.int .i64 0,.int .i64 0,.int .i64 0] 62))=W:=⟨_,rfl⟩
 rw[hW2] at hal2 t2 p2 r2
 replace hW2:=Lh hW2
 go_upto_region 3 with fail
 rw[hW2.out]
 have o0:W2.cell? ⟨w2.heap.size,0,none⟩ = some (.int .i64 x.kind):=by simp[World.cell?,t2]
 have o1:W2.cell? ⟨w2.heap.size,1,none⟩ = some (.string x.text):=by simp[World.cell?,t2]
 have R2:=Lh r2
 clear hal1 st1 ft1 hb2 hal2 r2 HT hs1
 go_wp2_with (first| (refine lP rfl rfl rfl (by assumption) ?_)| (refine sP rfl rfl rfl rfl (by assumption) ?_)|fail)
 refine(HNK.out W2).mono ?_
 rintro en w3 ⟨rfl,hb3⟩
 have p3:=p2.below hb3
 have R3:=Lh (R2.out.below hb3)
 have t3:=(hb3.block _ (Array.getElem?_eq_some_iff.1 t2).1).trans t2
 have o0:w3.cell? ⟨w2.heap.size,0,none⟩ = some (.int .i64 x.kind):=by simp[World.cell?,t3]
 have o1:w3.cell? ⟨w2.heap.size,1,none⟩ = some (.string x.text):=by simp[World.cell?,t3]
 clear hb3 p2 t2
 go_wp2_with (first| (refine lP rfl rfl rfl (by assumption) ?_)| (refine sP rfl rfl rfl rfl (by assumption) ?_)|fail)
 refine(HNK.out w3).mono ?_
 rintro en w4 ⟨rfl,hb4⟩
 have p4:=p3.below hb4
 have R4:=Lh (R3.out.below hb4)
 have t4:=(hb4.block _ (Array.getElem?_eq_some_iff.1 t3).1).trans t3
 clear hb4 p3 t3
 try clear e0 e1 e2 e3 e4 e5 e6 e7 e8 e9 e10 e11 e12 e13 e14 e15
 try clear v0 v1 v2 v3 v4 v5 v6 v7 v8 v9 v10 v11 v12 v13 v14 v15
 obtain⟨e0,e1,e2,e3,e4,e5,e6,e7,e8,e9,e10,e11,e12,e13,e14,e15⟩:=p4.facts
 obtain⟨v0,v1,v2,v3,v4,v5,v6,v7,v8,v9,v10,v11,v12,v13,v14,v15⟩:=p4.free
 obtain⟨W5,hW5⟩:∃ W,(w4.setCell ⟨w2.heap.size+1,0,none⟩ (.int .i64 K))=W:=⟨_,rfl⟩
 have p5:=p4.putK K
 have R5:=Lh (R4.out.kept (KeptP.cell w4 (w2.heap.size+1) 0 (.int .i64 K)))
 have t5: (w4.setCell ⟨w2.heap.size+1,0,none⟩ (.int .i64 K)).heap[w2.heap.size]?=_:=(Below.heap_setCell _ _ _ _ (by show w2.heap.size≠w2.heap.size+1;omega)).trans t4
 rw[hW5] at p5 R5 t5
 have o2:W5.cell? ⟨w2.heap.size,3,none⟩ = some (.int .i64 x.line):=by simp[World.cell?,t5]
 have o3:W5.cell? ⟨w2.heap.size,4,none⟩ = some (.int .i64 x.col):=by simp[World.cell?,t5]
 try clear g0 g1 g2 g3 g4 g5 g6 g7 g8 g9 g10 g11 g12 g13 g14 g15
 try clear u0 u1 u2 u3 u4 u5 u6 u7 u8 u9 u10 u11 u12 u13 u14 u15
 obtain⟨g0,g1,g2,g3,g4,g5,g6,g7,g8,g9,g10,g11,g12,g13,g14,g15⟩:=p5.facts
 obtain⟨u0,u1,u2,u3,u4,u5,u6,u7,u8,u9,u10,u11,u12,u13,u14,u15⟩:=p5.free
 obtain⟨W6,hW6⟩:∃ W,((W5.setCell ⟨w2.heap.size+1,2,none⟩ (.int .i64 x.line)).setCell ⟨w2.heap.size+1,3,none⟩ (.int .i64 x.col))=W:=⟨_,rfl⟩
 have p6:=p5.putAt x.line x.col
 have R6:=Lh (R5.out.kept ((KeptP.cell W5 (w2.heap.size+1) 2 (.int .i64 x.line)).trans (KeptP.cell _ (w2.heap.size+1) 3 (.int .i64 x.col))))
 rw[hW6] at p6 R6
 obtain⟨a0,a1,a2,a3,a4,a5,a6,a7,a8,a9,a10,a11,a12,a13,a14,a15⟩:=p6.facts
 obtain⟨b0,b1,b2,b3,b4,b5,b6,b7,b8,b9,b10,b11,b12,b13,b14,b15⟩:=p6.free
 replace a12:W6.cell? ⟨w2.heap.size+1,12,none⟩ = some (.int .i64 i):=a12
 obtain⟨W7,hW7⟩:∃ W,(W6.setCell ⟨w2.heap.size+1,12,none⟩ (.int .i64 (i+1)))=W:=⟨_,rfl⟩
 have p7:=p6.putI (i+1)
 have R7:=Lh (R6.out.kept (KeptP.cell W6 (w2.heap.size+1) 12 (.int .i64 (i+1))))
 rw[hW7] at p7 R7
 obtain⟨S,hS⟩:∃ S,startD T i=S:=⟨_,rfl⟩
 have p7':PB W7 (w2.heap.size+1) S (.slice none 0 0) (.slice none 0 0):=by rw[←hS,HSD.out];exact p7
 have HSK:Hid (S.x.kind=K∧S.x.names= []∧S.x.ifs= []∧S.x.final=false∧S.er=0∧S.line=0∧S.col=0):=by rw[←hS,HSD.out];exact⟨rfl,rfl,rfl,rfl,rfl,rfl,rfl⟩
 have HSI:Hid (InD T S):=by rw[←hS];exact HIS
 have HSS:=Lh hS
 rw[hS] at HO
 have hsk:W7.cell? ⟨w2.heap.size+1,0,none⟩ = some (.int .i64 K):=by rw[←HSK.out.1];exact p7'.facts.1
 have CLS:Hid (Clr T S):=fun _=>⟨HSI.out,HSK.out.2.2.2.2.2.1,HSK.out.2.2.2.2.2.2⟩
 clear p4 t4 p5 t5 p6 p7 hS
 have hk8: (K == 8)=true:=by rw[←HKE.out,H8.out];rfl
 obtain⟨G,hG⟩:∃ G,ruleD T K S=G:=⟨_,rfl⟩
 have HPA:=Lh (rdpair_any (HTK.out _ R7.out.lo) (Nat.le_trans HBB.out R7.out.lo.size) S (nv:=(.slice none 0 0)) (iv:=(.slice none 0 0)) ⟨_,_,_,rfl⟩ ⟨_,_,_,rfl⟩ (fun _=>HSI.out))
 rw[show sodD T S=G by rw[←hG,←HKE.out,H8.out];rfl] at HPA
 have HGX:Hid (G.x.ifs= []):=by
  have hq: (nameD T (needD T 4 sComma (nameD T S))).x=S.x:=(takeD_x T 1 _).trans ((needD_x T 4 sComma _).trans (takeD_x T 1 S))
  rw[←hG,←HKE.out,H8.out];show Hid ((nameD T (needD T 4 sComma (nameD T S))).x.ifs= [])
  rw[hq];exact HSK.out.2.2.1
 have CLR:Hid (Clr T G):=by
  rw[←hG,←HKE.out,H8.out]
  exact(((show Clr T S from CLS.out).name).need 4 sComma (by decide)).name
 rw[hG] at HO
 clear hG
 go_wp2_with (first| (refine lP rfl rfl rfl (by assumption) ?_)| (refine sP rfl rfl rfl rfl (by assumption) ?_)|fail)
 refine HPA.out.mono ?_
 rintro en w8 ⟨⟨nv8,rfl,hnm8⟩,hb8⟩
 obtain⟨ad6,n6,cap6,rfl⟩:=hnm8.sl
 have p8:=p7'.below hb8
 have R8:=Lh (R7.out.below hb8)
 have NM8:=Lh hnm8
 clear hb8 hnm8 p7'
 go_wp2_with (first| (refine lP rfl rfl rfl (by assumption) ?_)| (refine sP rfl rfl rfl rfl (by assumption) ?_)|fail)
 unfold Hid
 intro W9 p9 k9
 have R9:=Lh (R8.out.kept k9)
 have NM9:=Lh (k9.nm p8 NM8.out)
 have IT9:Hid (ItRow W9 (.slice none 0 0) G.x.ifs):=by unfold Hid;rw[HGX.out];exact⟨0,World.ownsRow_nil _ _ _ _⟩
 have HEQ:=Lh (EqR.refl G)
 clear k9 p8
 have HMU:=Lh (rdmust_any (HTK.out _ R9.out.lo) (Nat.le_trans HBB.out R9.out.lo.size) G (nv:=(.slice ad6 n6 cap6)) (iv:=(.slice none 0 0)) ⟨_,_,_,rfl⟩ ⟨_,_,_,rfl⟩ 4 sSemi (fun e=>(CLR.out e).1))
 obtain⟨Rf,hRf⟩:∃ q,needD T 4 sSemi G=q:=⟨_,rfl⟩
 have HXF:Hid (Rf.x=G.x):=by rw[←hRf];exact needD_x _ _ _ _
 have HFO:Hid (oneD T i=if Rf.er=0 then .ok Rf.x Rf.i else .bad Rf.er Rf.line Rf.col):=by
  unfold Hid;rw[HO.out]
  by_cases h0:G.er=0
  · rw[←HEQ.out.2.2.2 (by rw[←HEQ.out.1];exact h0),hRf]
  · have h1:G.er≠0:=by rw[←HEQ.out.1];exact h0
    rw[need_bad h1,if_neg h1,←hRf,need_bad h0,if_neg h0,HEQ.out.1,HEQ.out.2.1,HEQ.out.2.2.1]
 have HZ9:Hid (Rf.er=0→Rf.line=0∧Rf.col=0):=by
  unfold Hid;rw[←hRf];intro h
  exact((show Clr T G from CLR.out).need 4 sSemi (by decide) h).2
 rw[hRf] at HMU
 clear hRf
 go_wp2_with (first| (refine lP rfl rfl rfl (by assumption) ?_)| (refine sP rfl rfl rfl rfl (by assumption) ?_)|fail)
 refine HMU.out.mono ?_
 rintro en wa ⟨rfl,hba⟩
 have pa:=p9.below hba
 have Ra:=Lh (R9.out.below hba)
 have NMa:=Lh (NM9.out.keep hba)
 have ITa:=Lh (IT9.out.keep hba)
 rw[←HXF.out] at NMa ITa
 clear hba p9
 go_wp2_with (first| (refine lP rfl rfl rfl (by assumption) ?_)| (refine sP rfl rfl rfl rfl (by assumption) ?_)|fail)
 unfold Hid
 intro Wb pb kb
 have Rb:=Lh (Ra.out.kept kb)
 have NMb:=Lh (kb.nm pa NMa.out)
 have ITb:=Lh (kb.it pa ITa.out)
 clear kb pa
 by_cases hfe:Rf.er=0
 · have hfb: (Rf.er !=0)=false:=by simpa using hfe
   try clear e0 e1 e2 e3 e4 e5 e6 e7 e8 e9 e10 e11 e12 e13 e14 e15
   try clear v0 v1 v2 v3 v4 v5 v6 v7 v8 v9 v10 v11 v12 v13 v14 v15
   obtain⟨e0,e1,e2,e3,e4,e5,e6,e7,e8,e9,e10,e11,e12,e13,e14,e15⟩:=pb.facts
   have HOK:Hid (oneD T i=.ok Rf.x Rf.i):=by unfold Hid;rw[HFO.out,if_pos hfe]
   replace HZ9:Hid (Rf.er=0∧Rf.line=0∧Rf.col=0):=⟨hfe,HZ9.out hfe⟩
   clear hfe
   have HBD:=Lh ((Rb.out.done Rf.x (.slice ad6 n6 cap6) (.slice none 0 0) Rf.er Rf.line Rf.col))
   have HNMD:=fun(h:NmRow Wb (.slice ad6 n6 cap6) Rf.x.names)=>Lh (show NmRow _ (.slice ad6 n6 cap6) Rf.x.names from h.elim fun B hr=>⟨B,row_done Rb.out Rf.x (.slice ad6 n6 cap6) (.slice none 0 0) Rf.er Rf.line Rf.col (by decide) (by decide) hr⟩)
   have HITD:=fun(h:ItRow Wb (.slice none 0 0) Rf.x.ifs)=>Lh (show ItRow _ (.slice none 0 0) Rf.x.ifs from h.elim fun B hr=>⟨B,row_done Rb.out Rf.x (.slice ad6 n6 cap6) (.slice none 0 0) Rf.er Rf.line Rf.col (by decide) (by decide) hr⟩)
   have HNM9:=HNMD NMb.out
   have HIT9:=HITD ITb.out
   clear HNMD HITD
   try clear e0 e1 e2 e3 e4 e5 e6 e7 e8 e9 e10 e11 e12 e13 e14 e15
   try clear v0 v1 v2 v3 v4 v5 v6 v7 v8 v9 v10 v11 v12 v13 v14 v15
   obtain⟨e0,e1,e2,e3,e4,e5,e6,e7,e8,e9,e10,e11,e12,e13,e14,e15⟩:=pb.facts
   obtain⟨s0,s1,s2,s3,s4,s5,s6,s7,s8,s9,s10,s11⟩:=Rb.out.st.facts
   obtain⟨y0,y1,y2,y3,y4,y5,y6,y7,y8,y9,y10,y11⟩:=Rb.out.st.free
   obtain⟨m0,m1,m2⟩:=Rb.out.ft.facts
   obtain⟨n0,n1,n2⟩:=Rb.out.ft.free
   clear pb
   go_wp2
   go_region
   go_wp2
   refine bodyPost_ret (oneR_results HBD.out.1.drew HBD.out.2.1.drew Rf.i rfl rfl rfl) rfl ?_
   rw[HOK.out]
   exact⟨_,_,by rw[HZ9.out.1,HZ9.out.2.1,HZ9.out.2.2],HNM9.out.keep (Below.refl _ _).drew,HIT9.out.keep (Below.refl _ _).drew,HBD.out.2.2.drew⟩
 · have hfb: (Rf.er !=0)=true:=by simpa using hfe
   try clear e0 e1 e2 e3 e4 e5 e6 e7 e8 e9 e10 e11 e12 e13 e14 e15
   try clear v0 v1 v2 v3 v4 v5 v6 v7 v8 v9 v10 v11 v12 v13 v14 v15
   obtain⟨e0,e1,e2,e3,e4,e5,e6,e7,e8,e9,e10,e11,e12,e13,e14,e15⟩:=pb.facts
   have HOK:Hid (oneD T i=.bad Rf.er Rf.line Rf.col):=by unfold Hid;rw[HFO.out,if_neg hfe]
   clear hfe
   have HBD:=Lh ((Rb.out.done noSt (.slice none 0 0) (.slice none 0 0) Rf.er Rf.line Rf.col))
   try clear e0 e1 e2 e3 e4 e5 e6 e7 e8 e9 e10 e11 e12 e13 e14 e15
   try clear v0 v1 v2 v3 v4 v5 v6 v7 v8 v9 v10 v11 v12 v13 v14 v15
   obtain⟨e0,e1,e2,e3,e4,e5,e6,e7,e8,e9,e10,e11,e12,e13,e14,e15⟩:=pb.facts
   obtain⟨s0,s1,s2,s3,s4,s5,s6,s7,s8,s9,s10,s11⟩:=Rb.out.st.facts
   obtain⟨y0,y1,y2,y3,y4,y5,y6,y7,y8,y9,y10,y11⟩:=Rb.out.st.free
   obtain⟨m0,m1,m2⟩:=Rb.out.ft.facts
   obtain⟨n0,n1,n2⟩:=Rb.out.ft.free
   clear pb
   go_wp2
   go_region
   go_wp2
   refine bodyPost_ret (oneR_results HBD.out.1.drew HBD.out.2.1.drew 0 rfl rfl rfl) rfl ?_
   rw[HOK.out]
   exact⟨rfl,HBD.out.2.2.drew⟩
end Go.Proofs.YthlofmnmacpogaaGreatDoor
