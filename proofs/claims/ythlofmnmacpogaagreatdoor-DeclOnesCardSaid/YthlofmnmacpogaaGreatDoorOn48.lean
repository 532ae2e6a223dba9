/- A part of a proof: 'warder/warderlaw07.DeclOnes' returns true for every input and leaves its arguments as they were; no condition. The row lists package-level variables of Go's library with what they hold at the start; the card ties them to the program's text. -/
import Derived.Test.YthlofmnmacpogaaGreatDoorOn46
import Derived.Test.YthlofmnmacpogaaGreatDoorOn47
import Derived.Test.YthlofmnmacpogaaGreatDoorOn24
import Derived.KernelRfl
import Derived.Test.YthlofmnmacpogaaGreatDoorOn04
import Derived.BigQuiet
import Derived.Test.YthlofmnmacpogaaGreatDoorOn23
namespace Go.Proofs.YthlofmnmacpogaaGreatDoor
open Go.RowKit
set_option maxRecDepth 100000 in
set_option maxHeartbeats 40000000 in
theorem rdone_rest {w:World} {B:Nat} {lv:Value} {T:List Tk} (h:TkIn w B lv T) (hB:B≤w.heap.size) (i:Int) (hk: (tkAt T i).kind=2) (hn:kindN (tkAt T i).text≠0) (h8:kindN (tkAt T i).text≠8) :
 Calls Tryz.prog 12 #[lv,.int .i64 i] w (RdOne w (oneD T i)):=by
 have hTl:T.length≤1000000:=by obtain⟨_,_,_,hl,_⟩:=h;exact hl
 have HTK:Hid (∀ W,Below w.heap.size w W→TkIn W B lv T):=fun W hW=>h.below (hW.mono hB)
 have HBB:=Lib.hid hB
 have hal1:Below w.heap.size w ((w.alloc (.cells #[.int .i64 0,.string ⟨#[]⟩,.int .i64 0,.int .i64 0,.int .i64 0,.slice none 0 0,.string ⟨#[]⟩,.string ⟨#[]⟩,.string ⟨#[]⟩,.int .i64 0,.slice none 0 0,.bool false] 37)).alloc (.cells #[.int .i64 0,.int .i64 0,.int .i64 0] 28)):=((Below.refl _ _).alloc (Nat.le_refl _) _).alloc (by simp) _
 have st1:StB ((w.alloc (.cells #[.int .i64 0,.string ⟨#[]⟩,.int .i64 0,.int .i64 0,.int .i64 0,.slice none 0 0,.string ⟨#[]⟩,.string ⟨#[]⟩,.string ⟨#[]⟩,.int .i64 0,.slice none 0 0,.bool false] 37)).alloc (.cells #[.int .i64 0,.int .i64 0,.int .i64 0] 28)) w.heap.size noSt (.slice none 0 0) (.slice none 0 0):=StB.alloc (x:=noSt) (heap_alloc_new w _) _
 have ft1:FtB ((w.alloc (.cells #[.int .i64 0,.string ⟨#[]⟩,.int .i64 0,.int .i64 0,.int .i64 0,.slice none 0 0,.string ⟨#[]⟩,.string ⟨#[]⟩,.string ⟨#[]⟩,.int .i64 0,.slice none 0 0,.bool false] 37)).alloc (.cells #[.int .i64 0,.int .i64 0,.int .i64 0] 28)) (w.heap.size+1) 0 0 0:=heap_at_size _ _ _ (by simp)
 obtain⟨W1,hW1⟩:∃ W,((w.alloc (.cells #[.int .i64 0,.string ⟨#[]⟩,.int .i64 0,.int .i64 0,.int .i64 0,.slice none 0 0,.string ⟨#[]⟩,.string ⟨#[]⟩,.string ⟨#[]⟩,.int .i64 0,.slice none 0 0,.bool false] 37)).alloc (.cells #[.int .i64 0,.int .i64 0,.int .i64 0] 28))=W:=⟨_,rfl⟩
 rw[hW1] at hal1 st1 ft1
 have HT:=Lib.hid (rdtok_any (HTK.out _ hal1) i)
 obtain⟨x,hx⟩:∃ x,tkAt T i=x:=⟨_,rfl⟩
 have HX:=Lib.hid hx
 have H8:Hid (kindN x.text≠8):=by unfold Hid;rw[←hx];exact h8
 clear h8
 have HIN:Hid (0≤i∧i < (T.length:Int)):=tk_in (fun e=>by rw[e] at hk;cases hk)
 have HIS:Hid (InD T (startD T i)):=⟨show 0≤i+1 by have:=HIN.out;omega,show i+1≤(T.length:Int) by have:=HIN.out;omega⟩
 have HO:Hid (oneD T i=if(needD T 4 sSemi (ruleD T (kindN x.text) (startD T i))).er=0 then .ok (needD T 4 sSemi (ruleD T (kindN x.text) (startD T i))).x (needD T 4 sSemi (ruleD T (kindN x.text) (startD T i))).i else .bad (needD T 4 sSemi (ruleD T (kindN x.text) (startD T i))).er (needD T 4 sSemi (ruleD T (kindN x.text) (startD T i))).line (needD T 4 sSemi (ruleD T (kindN x.text) (startD T i))).col):=by
  unfold Hid oneD
  rw[if_neg (fun h=>h.elim (fun h=>h hk) hn),hx]
 rw[hx] at hk hn
 have HKX:=Lib.hid hx
 have hkb: (x.kind !=2)=false:=by simpa using hk
 obtain⟨K,hK⟩:∃ K,kindN x.text=K:=⟨_,rfl⟩
 have hK0: (K == 0)=false:=beq_eq_false_iff_ne.2 (by rw[←hK];exact hn)
 have HSD:Hid (startD T i= ⟨i+1,{ noSt with kind:=K,line:=x.line,col:=x.col },0,0,0⟩):=by unfold Hid startD;rw[hx,hK]
 rw[hK] at HO
 have HKE:=Lib.hid hK
 have HK8:=kindN_in x.text
 rw[hK] at HK8
 have HNK:=fun W=>rdkind_any x.text W
 rw[hK] at HNK
 replace HNK:=Lib.hid HNK
 replace HK8:=Lib.hid HK8
 have hwr:IntKind.i64.wrap (i+1)=i+1:=IntWalk.i64_in _ ⟨by have:=HIN.out;omega,by have:=HIN.out;omega⟩
 clear hk hn hK
 clear h hB hx
 go_enter Tryz.func12,Tryz.ntmps12
 go_wp2_with (first| (refine wpL_loadP rfl rfl rfl (by assumption) ?_)| (refine wpL_storeP rfl rfl rfl rfl (by assumption) ?_)|fail)
 refine HT.out.mono ?_
 rintro en w2 ⟨rfl,hb2⟩
 rw[HX.out]
 unfold tokV
 have hs1:=ft1.lt
 have hs2:=hb2.size
 have hal2:Below w2.heap.size w2 ((w2.alloc (.cells #[.int .i64 x.kind,.string x.text,.int .i64 x.num,.int .i64 x.line,.int .i64 x.col] 48)).alloc (.cells #[.int .i64 0,.string ⟨#[]⟩,.int .i64 0,.int .i64 0,.int .i64 0,.slice none 0 0,.string ⟨#[]⟩,.string ⟨#[]⟩,.string ⟨#[]⟩,.int .i64 0,.slice none 0 0,.bool false,.int .i64 i,.int .i64 0,.int .i64 0,.int .i64 0] 62)):=((Below.refl _ _).alloc (Nat.le_refl _) _).alloc (by simp) _
 have t2: ((w2.alloc (.cells #[.int .i64 x.kind,.string x.text,.int .i64 x.num,.int .i64 x.line,.int .i64 x.col] 48)).alloc (.cells #[.int .i64 0,.string ⟨#[]⟩,.int .i64 0,.int .i64 0,.int .i64 0,.slice none 0 0,.string ⟨#[]⟩,.string ⟨#[]⟩,.string ⟨#[]⟩,.int .i64 0,.slice none 0 0,.bool false,.int .i64 i,.int .i64 0,.int .i64 0,.int .i64 0] 62)).heap[w2.heap.size]?=some (.cells #[.int .i64 x.kind,.string x.text,.int .i64 x.num,.int .i64 x.line,.int .i64 x.col] 48 (0,0)):=by
  rw[Below.heap_alloc _ _ _ (by simp)];exact heap_alloc_new w2 _
 have p2:PB ((w2.alloc (.cells #[.int .i64 x.kind,.string x.text,.int .i64 x.num,.int .i64 x.line,.int .i64 x.col] 48)).alloc (.cells #[.int .i64 0,.string ⟨#[]⟩,.int .i64 0,.int .i64 0,.int .i64 0,.slice none 0 0,.string ⟨#[]⟩,.string ⟨#[]⟩,.string ⟨#[]⟩,.int .i64 0,.slice none 0 0,.bool false,.int .i64 i,.int .i64 0,.int .i64 0,.int .i64 0] 62)) (w2.heap.size+1) ⟨i,noSt,0,0,0⟩ (.slice none 0 0) (.slice none 0 0):=heap_at_size _ _ _ (by simp)
 have r2:RS1 w ((w2.alloc (.cells #[.int .i64 x.kind,.string x.text,.int .i64 x.num,.int .i64 x.line,.int .i64 x.col] 48)).alloc (.cells #[.int .i64 0,.string ⟨#[]⟩,.int .i64 0,.int .i64 0,.int .i64 0,.slice none 0 0,.string ⟨#[]⟩,.string ⟨#[]⟩,.string ⟨#[]⟩,.int .i64 0,.slice none 0 0,.bool false,.int .i64 i,.int .i64 0,.int .i64 0,.int .i64 0] 62)) (w2.heap.size+1):=⟨(st1.below hb2).below hal2,(ft1.below hb2).below hal2,(hal1.trans (hb2.mono hal1.size)).trans (hal2.mono (Nat.le_trans hal1.size hb2.size)),by omega⟩
 obtain⟨W2,hW2⟩:∃ W,((w2.alloc (.cells #[.int .i64 x.kind,.string x.text,.int .i64 x.num,.int .i64 x.line,.int .i64 x.col] 48)).alloc (.cells #[.int .i64 0,.string ⟨#[]⟩,.int .i64 0,.int .i64 0,.int .i64 0,.slice none 0 0,.string ⟨#[]⟩,.string ⟨#[]⟩,.string ⟨#[]⟩,.int .i64 0,.slice none 0 0,.bool false,.int .i64 i,.int .i64 0,.int .i64 0,.int .i64 0] 62))=W:=⟨_,rfl⟩
 rw[hW2] at hal2 t2 p2 r2
 replace hW2:=Lib.hid hW2
 go_upto_region 3 with fail
 rw[hW2.out]
 have o0:W2.cell? ⟨w2.heap.size,0,none⟩ = some (.int .i64 x.kind):=by simp[World.cell?,t2]
 have o1:W2.cell? ⟨w2.heap.size,1,none⟩ = some (.string x.text):=by simp[World.cell?,t2]
 have R2:=Lib.hid r2
 clear hal1 st1 ft1 hb2 hal2 r2 HT hs1
 go_wp2_with (first| (refine wpL_loadP rfl rfl rfl (by assumption) ?_)| (refine wpL_storeP rfl rfl rfl rfl (by assumption) ?_)|fail)
 refine(HNK.out W2).mono ?_
 rintro en w3 ⟨rfl,hb3⟩
 have p3:=p2.below hb3
 have R3:=Lib.hid (R2.out.below hb3)
 have t3:=(hb3.block _ (Array.getElem?_eq_some_iff.1 t2).1).trans t2
 have o0:w3.cell? ⟨w2.heap.size,0,none⟩ = some (.int .i64 x.kind):=by simp[World.cell?,t3]
 have o1:w3.cell? ⟨w2.heap.size,1,none⟩ = some (.string x.text):=by simp[World.cell?,t3]
 clear hb3 p2 t2
 go_wp2_with (first| (refine wpL_loadP rfl rfl rfl (by assumption) ?_)| (refine wpL_storeP rfl rfl rfl rfl (by assumption) ?_)|fail)
 refine(HNK.out w3).mono ?_
 rintro en w4 ⟨rfl,hb4⟩
 have p4:=p3.below hb4
 have R4:=Lib.hid (R3.out.below hb4)
 have t4:=(hb4.block _ (Array.getElem?_eq_some_iff.1 t3).1).trans t3
 clear hb4 p3 t3
 try clear e0 e1 e2 e3 e4 e5 e6 e7 e8 e9 e10 e11 e12 e13 e14 e15
 try clear v0 v1 v2 v3 v4 v5 v6 v7 v8 v9 v10 v11 v12 v13 v14 v15
 obtain⟨e0,e1,e2,e3,e4,e5,e6,e7,e8,e9,e10,e11,e12,e13,e14,e15⟩:=p4.facts
 obtain⟨v0,v1,v2,v3,v4,v5,v6,v7,v8,v9,v10,v11,v12,v13,v14,v15⟩:=p4.free
 obtain⟨W5,hW5⟩:∃ W,(w4.setCell ⟨w2.heap.size+1,0,none⟩ (.int .i64 K))=W:=⟨_,rfl⟩
 have p5:=p4.putK K
 have R5:=Lib.hid (R4.out.kept (KeptP.cell w4 (w2.heap.size+1) 0 (.int .i64 K)))
 have t5: (w4.setCell ⟨w2.heap.size+1,0,none⟩ (.int .i64 K)).heap[w2.heap.size]?=_:=(Below.heap_setCell _ _ _ _ (by show w2.heap.size≠w2.heap.size+1;omega)).trans t4
 rw[hW5] at p5 R5 t5
 have o2:W5.cell? ⟨w2.heap.size,3,none⟩ = some (.int .i64 x.line):=by simp[World.cell?,t5]
 have o3:W5.cell? ⟨w2.heap.size,4,none⟩ = some (.int .i64 x.col):=by simp[World.cell?,t5]
 try clear g0 g1 g2 g3 g4 g5 g6 g7 g8 g9 g10 g11 g12 g13 g14 g15
 try clear u0 u1 u2 u3 u4 u5 u6 u7 u8 u9 u10 u11 u12 u13 u14 u15
 obtain⟨g0,g1,g2,g3,g4,g5,g6,g7,g8,g9,g10,g11,g12,g13,g14,g15⟩:=p5.facts
 obtain⟨u0,u1,u2,u3,u4,u5,u6,u7,u8,u9,u10,u11,u12,u13,u14,u15⟩:=p5.free
 obtain⟨W6,hW6⟩:∃ W,((W5.setCell ⟨w2.heap.size+1,2,none⟩ (.int .i64 x.line)).setCell ⟨w2.heap.size+1,3,none⟩ (.int .i64 x.col))=W:=⟨_,rfl⟩
 have p6:=p5.putAt x.line x.col
 have R6:=Lib.hid (R5.out.kept ((KeptP.cell W5 (w2.heap.size+1) 2 (.int .i64 x.line)).trans (KeptP.cell _ (w2.heap.size+1) 3 (.int .i64 x.col))))
 rw[hW6] at p6 R6
 obtain⟨a0,a1,a2,a3,a4,a5,a6,a7,a8,a9,a10,a11,a12,a13,a14,a15⟩:=p6.facts
 obtain⟨b0,b1,b2,b3,b4,b5,b6,b7,b8,b9,b10,b11,b12,b13,b14,b15⟩:=p6.free
 replace a12:W6.cell? ⟨w2.heap.size+1,12,none⟩ = some (.int .i64 i):=a12
 obtain⟨W7,hW7⟩:∃ W,(W6.setCell ⟨w2.heap.size+1,12,none⟩ (.int .i64 (i+1)))=W:=⟨_,rfl⟩
 have p7:=p6.putI (i+1)
 have R7:=Lib.hid (R6.out.kept (KeptP.cell W6 (w2.heap.size+1) 12 (.int .i64 (i+1))))
 rw[hW7] at p7 R7
 obtain⟨S,hS⟩:∃ S,startD T i=S:=⟨_,rfl⟩
 have p7':PB W7 (w2.heap.size+1) S (.slice none 0 0) (.slice none 0 0):=by rw[←hS,HSD.out];exact p7
 have HSK:Hid (S.x.kind=K∧S.x.names= []∧S.x.ifs= []∧S.x.final=false∧S.er=0∧S.line=0∧S.col=0):=by rw[←hS,HSD.out];exact⟨rfl,rfl,rfl,rfl,rfl,rfl,rfl⟩
 have HSI:Hid (InD T S):=by rw[←hS];exact HIS
 have HSS:=Lib.hid hS
 rw[hS] at HO
 have hsk:W7.cell? ⟨w2.heap.size+1,0,none⟩ = some (.int .i64 K):=by rw[←HSK.out.1];exact p7'.facts.1
 have CLS:Hid (Clr T S):=fun _=>⟨HSI.out,HSK.out.2.2.2.2.2.1,HSK.out.2.2.2.2.2.2⟩
 clear p4 t4 p5 t5 p6 p7 hS
 have hk8: (K == 8)=false:=beq_eq_false_iff_ne.2 (by rw[←HKE.out];exact H8.out)
 have HKK:Hid (K=1∨K=2∨K=3∨K=4∨K=5∨K=6∨K=7):=by
  have h1:=HK8.out
  have h2:=H8.out
  rw[HKE.out] at h2
  have h3:K≠0:=by simpa using hK0
  unfold Hid;omega
 obtain⟨G,hG⟩:∃ G,ruleD T K S=G:=⟨_,rfl⟩
 have HFI:=Lib.hid (rdfirst_any (HTK.out _ R7.out.lo) (Nat.le_trans HBB.out R7.out.lo.size) S (nv:=(.slice none 0 0)) (iv:=(.slice none 0 0)) ⟨_,_,_,rfl⟩ ⟨_,_,_,rfl⟩ (fun _=>HSI.out))
 obtain⟨F,hF⟩:∃ F,firstR T S=F:=⟨_,rfl⟩
 have HGR:Hid (G=restR T K F):=by unfold Hid;rw[←hG,←hF];exact rule_first T K S HSK.out.1 HKK.out
 have HGI:Hid (InD T G):=by rw[←hG];exact inD_rule K HSI.out
 have HFX:Hid (F.x.kind=K∧F.x.names= []∧F.x.ifs= []∧F.x.final=false):=by
  have hx1: (nameD T S).x=S.x:=takeD_x T 1 S
  rw[←hF];unfold firstR
  split
  · show Hid ((nameD T S).x.kind=_∧(nameD T S).x.names=_∧(nameD T S).x.ifs=_∧(nameD T S).x.final=_)
    rw[hx1];exact⟨HSK.out.1,HSK.out.2.1,HSK.out.2.2.1,HSK.out.2.2.2.1⟩
  · show Hid ((nameD T S).x.kind=_∧(nameD T S).x.names=_∧(nameD T S).x.ifs=_∧(nameD T S).x.final=_)
    rw[hx1];exact⟨HSK.out.1,HSK.out.2.1,HSK.out.2.2.1,HSK.out.2.2.2.1⟩
 have CLF:Hid (Clr T F):=by
  rw[←hF];unfold firstR
  split
  · exact(show Clr T S from CLS.out).name
  · exact(show Clr T S from CLS.out).name
 rw[hF] at HFI
 rw[hG] at HO
 clear hG hF
 go_wp2_with (first| (refine wpL_loadP rfl rfl rfl (by assumption) ?_)| (refine wpL_storeP rfl rfl rfl rfl (by assumption) ?_)|fail)
 refine HFI.out.mono ?_
 rintro en w8 ⟨rfl,hb8⟩
 have p8:=p7'.below hb8
 have R8:=Lib.hid (R7.out.below hb8)
 clear hb8 p7'
 go_wp2_with (first| (refine wpL_loadP rfl rfl rfl (by assumption) ?_)| (refine wpL_storeP rfl rfl rfl rfl (by assumption) ?_)|fail)
 unfold Hid
 intro W9 p9 k9
 have R9:=Lib.hid (R8.out.kept k9)
 clear k9 p8
 try clear e0 e1 e2 e3 e4 e5 e6 e7 e8 e9 e10 e11 e12 e13 e14 e15
 try clear v0 v1 v2 v3 v4 v5 v6 v7 v8 v9 v10 v11 v12 v13 v14 v15
 obtain⟨e0,e1,e2,e3,e4,e5,e6,e7,e8,e9,e10,e11,e12,e13,e14,e15⟩:=p9.facts
 have NM9:Hid (NmRow W9 (.slice none 0 0) F.x.names):=by unfold Hid;rw[HFX.out.2.1];exact⟨0,World.ownsRow_nil _ _ _ _⟩
 have IT9:Hid (ItRow W9 (.slice none 0 0) F.x.ifs):=by unfold Hid;rw[HFX.out.2.2.1];exact⟨0,World.ownsRow_nil _ _ _ _⟩
 by_cases hfz:F.er=0
 · have hfzb: (F.er == 0)=true:=by rw[beq_iff_eq];exact hfz
   have HRE:=rdrest_any (HTK.out _ R9.out.lo) (Nat.le_trans HBB.out R9.out.lo.size) F NM9.out IT9.out CLF.out hfz HFX.out.2.1 HFX.out.2.2.2 (by rw[HFX.out.1];exact HKK.out)
   rw[HFX.out.1,←HGR.out] at HRE
   replace HRE:=Lib.hid HRE
   have HFZ:=Lib.hid hfz
   clear hfz
   go_wp2_with (first| (refine wpL_loadP rfl rfl rfl (by assumption) ?_)| (refine wpL_storeP rfl rfl rfl rfl (by assumption) ?_)|fail)
   refine HRE.out.mono ?_
   rintro en wc ⟨Q,nv1,iv1,rfl,heq,hnm,hit,hbc⟩
   obtain⟨ad6,n6,cap6,rfl⟩:=hnm.sl
   obtain⟨ad5,n5,cap5,rfl⟩:=hit.sl
   have pc:=p9.below hbc
   have Rc:=Lib.hid (R9.out.below hbc)
   have NMc:=Lib.hid hnm
   have ITc:=Lib.hid hit
   have HEQ:=Lib.hid heq
   clear hbc p9 hnm hit heq
   go_wp2_with (first| (refine wpL_loadP rfl rfl rfl (by assumption) ?_)| (refine wpL_storeP rfl rfl rfl rfl (by assumption) ?_)|fail)
   unfold Hid
   intro Wd pd kd
   have Rd:=Lib.hid (Rc.out.kept kd)
   have NMd:=Lib.hid (kd.nm pc NMc.out)
   have ITd:=Lib.hid (kd.it pc ITc.out)
   clear kd pc
   have CLR:Hid (Clr T Q):=fun e=>by
    have e2:Q=G:=HEQ.out.2.2.2 (by rw[←HEQ.out.1];exact e)
    rw[e2] at e ⊢
    refine⟨HGI.out,?_⟩
    rw[HGR.out] at e ⊢
    exact rest_clr CLF.out HFZ.out e
   have HMU:=Lib.hid (rdmust_any (HTK.out _ Rd.out.lo) (Nat.le_trans HBB.out Rd.out.lo.size) Q (nv:=(.slice ad6 n6 cap6)) (iv:=(.slice ad5 n5 cap5)) ⟨_,_,_,rfl⟩ ⟨_,_,_,rfl⟩ 4 sSemi (fun e=>(CLR.out e).1))
   obtain⟨Rf,hRf⟩:∃ q,needD T 4 sSemi Q=q:=⟨_,rfl⟩
   have HXF:Hid (Rf.x=Q.x):=by rw[←hRf];exact needD_x _ _ _ _
   have HFO:Hid (oneD T i=if Rf.er=0 then .ok Rf.x Rf.i else .bad Rf.er Rf.line Rf.col):=by
    unfold Hid;rw[HO.out]
    by_cases h0:Q.er=0
    · rw[←HEQ.out.2.2.2 (by rw[←HEQ.out.1];exact h0),hRf]
    · have h1:G.er≠0:=by rw[←HEQ.out.1];exact h0
      rw[need_bad h1,if_neg h1,←hRf,need_bad h0,if_neg h0,HEQ.out.1,HEQ.out.2.1,HEQ.out.2.2.1]
   have HZ9:Hid (Rf.er=0→Rf.line=0∧Rf.col=0):=by
    unfold Hid;rw[←hRf];intro h
    exact((show Clr T Q from CLR.out).need 4 sSemi (by decide) h).2
   rw[hRf] at HMU
   clear hRf
   go_wp2_with (first| (refine wpL_loadP rfl rfl rfl (by assumption) ?_)| (refine wpL_storeP rfl rfl rfl rfl (by assumption) ?_)|fail)
   refine HMU.out.mono ?_
   rintro en wa ⟨rfl,hba⟩
   have pa:=pd.below hba
   have Ra:=Lib.hid (Rd.out.below hba)
   have NMa:=Lib.hid (NMd.out.keep hba)
   have ITa:=Lib.hid (ITd.out.keep hba)
   rw[←HXF.out] at NMa ITa
   clear hba pd
   go_wp2_with (first| (refine wpL_loadP rfl rfl rfl (by assumption) ?_)| (refine wpL_storeP rfl rfl rfl rfl (by assumption) ?_)|fail)
   unfold Hid
   intro Wb pb kb
   have Rb:=Lib.hid (Ra.out.kept kb)
   have NMb:=Lib.hid (kb.nm pa NMa.out)
   have ITb:=Lib.hid (kb.it pa ITa.out)
   clear kb pa
   by_cases hfe:Rf.er=0
   · have hfb: (Rf.er !=0)=false:=by simpa using hfe
     try clear e0 e1 e2 e3 e4 e5 e6 e7 e8 e9 e10 e11 e12 e13 e14 e15
     try clear v0 v1 v2 v3 v4 v5 v6 v7 v8 v9 v10 v11 v12 v13 v14 v15
     obtain⟨e0,e1,e2,e3,e4,e5,e6,e7,e8,e9,e10,e11,e12,e13,e14,e15⟩:=pb.facts
     have HOK:Hid (oneD T i=.ok Rf.x Rf.i):=by unfold Hid;rw[HFO.out,if_pos hfe]
     replace HZ9:Hid (Rf.er=0∧Rf.line=0∧Rf.col=0):=⟨hfe,HZ9.out hfe⟩
     clear hfe
     have HBD:=Lib.hid ((Rb.out.done Rf.x (.slice ad6 n6 cap6) (.slice ad5 n5 cap5) Rf.er Rf.line Rf.col))
     have HNMD:=fun(h:NmRow Wb (.slice ad6 n6 cap6) Rf.x.names)=>Lib.hid (show NmRow _ (.slice ad6 n6 cap6) Rf.x.names from h.elim fun B hr=>⟨B,row_done Rb.out Rf.x (.slice ad6 n6 cap6) (.slice ad5 n5 cap5) Rf.er Rf.line Rf.col (by decide) (by decide) hr⟩)
     have HITD:=fun(h:ItRow Wb (.slice ad5 n5 cap5) Rf.x.ifs)=>Lib.hid (show ItRow _ (.slice ad5 n5 cap5) Rf.x.ifs from h.elim fun B hr=>⟨B,row_done Rb.out Rf.x (.slice ad6 n6 cap6) (.slice ad5 n5 cap5) Rf.er Rf.line Rf.col (by decide) (by decide) hr⟩)
     have HNM9:=HNMD NMb.out
     have HIT9:=HITD ITb.out
     clear HNMD HITD
     try clear e0 e1 e2 e3 e4 e5 e6 e7 e8 e9 e10 e11 e12 e13 e14 e15
     try clear v0 v1 v2 v3 v4 v5 v6 v7 v8 v9 v10 v11 v12 v13 v14 v15
     obtain⟨e0,e1,e2,e3,e4,e5,e6,e7,e8,e9,e10,e11,e12,e13,e14,e15⟩:=pb.facts
     obtain⟨s0,s1,s2,s3,s4,s5,s6,s7,s8,s9,s10,s11⟩:=Rb.out.st.facts
     obtain⟨y0,y1,y2,y3,y4,y5,y6,y7,y8,y9,y10,y11⟩:=Rb.out.st.free
     obtain⟨m0,m1,m2⟩:=Rb.out.ft.facts
     obtain⟨n0,n1,n2⟩:=Rb.out.ft.free
     clear pb
     go_wp2
     go_region
     go_wp2
     refine bodyPost_ret (oneR_results HBD.out.1.drew HBD.out.2.1.drew Rf.i rfl rfl rfl) rfl ?_
     rw[HOK.out]
     exact⟨_,_,by rw[HZ9.out.1,HZ9.out.2.1,HZ9.out.2.2],HNM9.out.keep (Below.refl _ _).drew,HIT9.out.keep (Below.refl _ _).drew,HBD.out.2.2.drew⟩
   · have hfb: (Rf.er !=0)=true:=by simpa using hfe
     try clear e0 e1 e2 e3 e4 e5 e6 e7 e8 e9 e10 e11 e12 e13 e14 e15
     try clear v0 v1 v2 v3 v4 v5 v6 v7 v8 v9 v10 v11 v12 v13 v14 v15
     obtain⟨e0,e1,e2,e3,e4,e5,e6,e7,e8,e9,e10,e11,e12,e13,e14,e15⟩:=pb.facts
     have HOK:Hid (oneD T i=.bad Rf.er Rf.line Rf.col):=by unfold Hid;rw[HFO.out,if_neg hfe]
     clear hfe
     have HBD:=Lib.hid ((Rb.out.done noSt (.slice none 0 0) (.slice none 0 0) Rf.er Rf.line Rf.col))
     try clear e0 e1 e2 e3 e4 e5 e6 e7 e8 e9 e10 e11 e12 e13 e14 e15
     try clear v0 v1 v2 v3 v4 v5 v6 v7 v8 v9 v10 v11 v12 v13 v14 v15
     obtain⟨e0,e1,e2,e3,e4,e5,e6,e7,e8,e9,e10,e11,e12,e13,e14,e15⟩:=pb.facts
     obtain⟨s0,s1,s2,s3,s4,s5,s6,s7,s8,s9,s10,s11⟩:=Rb.out.st.facts
     obtain⟨y0,y1,y2,y3,y4,y5,y6,y7,y8,y9,y10,y11⟩:=Rb.out.st.free
     obtain⟨m0,m1,m2⟩:=Rb.out.ft.facts
     obtain⟨n0,n1,n2⟩:=Rb.out.ft.free
     clear pb
     go_wp2
     go_region
     go_wp2
     refine bodyPost_ret (oneR_results HBD.out.1.drew HBD.out.2.1.drew 0 rfl rfl rfl) rfl ?_
     rw[HOK.out]
     exact⟨rfl,HBD.out.2.2.drew⟩
 · have hfzb: (F.er == 0)=false:=beq_eq_false_iff_ne.2 hfz
   have HEQ:Hid (EqR F G):=by unfold Hid;rw[HGR.out];exact rest_bad T K hfz
   have CLR:Hid (Clr T F):=CLF
   clear hfz
   have HMU:=Lib.hid (rdmust_any (HTK.out _ R9.out.lo) (Nat.le_trans HBB.out R9.out.lo.size) F (nv:=(.slice none 0 0)) (iv:=(.slice none 0 0)) ⟨_,_,_,rfl⟩ ⟨_,_,_,rfl⟩ 4 sSemi (fun e=>(CLF.out e).1))
   obtain⟨Rf,hRf⟩:∃ q,needD T 4 sSemi F=q:=⟨_,rfl⟩
   have HXF:Hid (Rf.x=F.x):=by rw[←hRf];exact needD_x _ _ _ _
   have HFO:Hid (oneD T i=if Rf.er=0 then .ok Rf.x Rf.i else .bad Rf.er Rf.line Rf.col):=by
    unfold Hid;rw[HO.out]
    by_cases h0:F.er=0
    · rw[←HEQ.out.2.2.2 (by rw[←HEQ.out.1];exact h0),hRf]
    · have h1:G.er≠0:=by rw[←HEQ.out.1];exact h0
      rw[need_bad h1,if_neg h1,←hRf,need_bad h0,if_neg h0,HEQ.out.1,HEQ.out.2.1,HEQ.out.2.2.1]
   have HZ9:Hid (Rf.er=0→Rf.line=0∧Rf.col=0):=by
    unfold Hid;rw[←hRf];intro h
    exact((show Clr T F from CLR.out).need 4 sSemi (by decide) h).2
   rw[hRf] at HMU
   clear hRf
   go_wp2_with (first| (refine wpL_loadP rfl rfl rfl (by assumption) ?_)| (refine wpL_storeP rfl rfl rfl rfl (by assumption) ?_)|fail)
   refine HMU.out.mono ?_
   rintro en wa ⟨rfl,hba⟩
   have pa:=p9.below hba
   have Ra:=Lib.hid (R9.out.below hba)
   have NMa:=Lib.hid (NM9.out.keep hba)
   have ITa:=Lib.hid (IT9.out.keep hba)
   rw[←HXF.out] at NMa ITa
   clear hba p9
   go_wp2_with (first| (refine wpL_loadP rfl rfl rfl (by assumption) ?_)| (refine wpL_storeP rfl rfl rfl rfl (by assumption) ?_)|fail)
   unfold Hid
   intro Wb pb kb
   have Rb:=Lib.hid (Ra.out.kept kb)
   have NMb:=Lib.hid (kb.nm pa NMa.out)
   have ITb:=Lib.hid (kb.it pa ITa.out)
   clear kb pa
   by_cases hfe:Rf.er=0
   · have hfb: (Rf.er !=0)=false:=by simpa using hfe
     try clear e0 e1 e2 e3 e4 e5 e6 e7 e8 e9 e10 e11 e12 e13 e14 e15
     try clear v0 v1 v2 v3 v4 v5 v6 v7 v8 v9 v10 v11 v12 v13 v14 v15
     obtain⟨e0,e1,e2,e3,e4,e5,e6,e7,e8,e9,e10,e11,e12,e13,e14,e15⟩:=pb.facts
     have HOK:Hid (oneD T i=.ok Rf.x Rf.i):=by unfold Hid;rw[HFO.out,if_pos hfe]
     replace HZ9:Hid (Rf.er=0∧Rf.line=0∧Rf.col=0):=⟨hfe,HZ9.out hfe⟩
     clear hfe
     have HBD:=Lib.hid ((Rb.out.done Rf.x (.slice none 0 0) (.slice none 0 0) Rf.er Rf.line Rf.col))
     have HNMD:=fun(h:NmRow Wb (.slice none 0 0) Rf.x.names)=>Lib.hid (show NmRow _ (.slice none 0 0) Rf.x.names from h.elim fun B hr=>⟨B,row_done Rb.out Rf.x (.slice none 0 0) (.slice none 0 0) Rf.er Rf.line Rf.col (by decide) (by decide) hr⟩)
     have HITD:=fun(h:ItRow Wb (.slice none 0 0) Rf.x.ifs)=>Lib.hid (show ItRow _ (.slice none 0 0) Rf.x.ifs from h.elim fun B hr=>⟨B,row_done Rb.out Rf.x (.slice none 0 0) (.slice none 0 0) Rf.er Rf.line Rf.col (by decide) (by decide) hr⟩)
     have HNM9:=HNMD NMb.out
     have HIT9:=HITD ITb.out
     clear HNMD HITD
     try clear e0 e1 e2 e3 e4 e5 e6 e7 e8 e9 e10 e11 e12 e13 e14 e15
     try clear v0 v1 v2 v3 v4 v5 v6 v7 v8 v9 v10 v11 v12 v13 v14 v15
     obtain⟨e0,e1,e2,e3,e4,e5,e6,e7,e8,e9,e10,e11,e12,e13,e14,e15⟩:=pb.facts
     obtain⟨s0,s1,s2,s3,s4,s5,s6,s7,s8,s9,s10,s11⟩:=Rb.out.st.facts
     obtain⟨y0,y1,y2,y3,y4,y5,y6,y7,y8,y9,y10,y11⟩:=Rb.out.st.free
     obtain⟨m0,m1,m2⟩:=Rb.out.ft.facts
     obtain⟨n0,n1,n2⟩:=Rb.out.ft.free
     clear pb
     go_wp2
     go_region
     go_wp2
     refine bodyPost_ret (oneR_results HBD.out.1.drew HBD.out.2.1.drew Rf.i rfl rfl rfl) rfl ?_
     rw[HOK.out]
     exact⟨_,_,by rw[HZ9.out.1,HZ9.out.2.1,HZ9.out.2.2],HNM9.out.keep (Below.refl _ _).drew,HIT9.out.keep (Below.refl _ _).drew,HBD.out.2.2.drew⟩
   · have hfb: (Rf.er !=0)=true:=by simpa using hfe
     try clear e0 e1 e2 e3 e4 e5 e6 e7 e8 e9 e10 e11 e12 e13 e14 e15
     try clear v0 v1 v2 v3 v4 v5 v6 v7 v8 v9 v10 v11 v12 v13 v14 v15
     obtain⟨e0,e1,e2,e3,e4,e5,e6,e7,e8,e9,e10,e11,e12,e13,e14,e15⟩:=pb.facts
     have HOK:Hid (oneD T i=.bad Rf.er Rf.line Rf.col):=by unfold Hid;rw[HFO.out,if_neg hfe]
     clear hfe
     have HBD:=Lib.hid ((Rb.out.done noSt (.slice none 0 0) (.slice none 0 0) Rf.er Rf.line Rf.col))
     try clear e0 e1 e2 e3 e4 e5 e6 e7 e8 e9 e10 e11 e12 e13 e14 e15
     try clear v0 v1 v2 v3 v4 v5 v6 v7 v8 v9 v10 v11 v12 v13 v14 v15
     obtain⟨e0,e1,e2,e3,e4,e5,e6,e7,e8,e9,e10,e11,e12,e13,e14,e15⟩:=pb.facts
     obtain⟨s0,s1,s2,s3,s4,s5,s6,s7,s8,s9,s10,s11⟩:=Rb.out.st.facts
     obtain⟨y0,y1,y2,y3,y4,y5,y6,y7,y8,y9,y10,y11⟩:=Rb.out.st.free
     obtain⟨m0,m1,m2⟩:=Rb.out.ft.facts
     obtain⟨n0,n1,n2⟩:=Rb.out.ft.free
     clear pb
     go_wp2
     go_region
     go_wp2
     refine bodyPost_ret (oneR_results HBD.out.1.drew HBD.out.2.1.drew 0 rfl rfl rfl) rfl ?_
     rw[HOK.out]
     exact⟨rfl,HBD.out.2.2.drew⟩
end Go.Proofs.YthlofmnmacpogaaGreatDoor
namespace Go.Proofs.YthlofmnmacpogaaGreatDoor
open Go.RowKit
theorem rdone_any {w:World} {B:Nat} {lv:Value} {T:List Tk} (h:TkIn w B lv T) (hB:B≤w.heap.size) (i:Int) :
 Calls Tryz.prog 12 #[lv,.int .i64 i] w (RdOne w (oneD T i)):=by
 by_cases hn: (tkAt T i).kind≠2∨kindN (tkAt T i).text=0
 · exact rdone_none h hB i hn
 · have hk: (tkAt T i).kind=2:=Classical.byContradiction fun e=>hn (.inl e)
   have h0:kindN (tkAt T i).text≠0:=fun e=>hn (.inr e)
   by_cases h8:kindN (tkAt T i).text=8
   · exact rdone_sod h hB i hk h0 h8
   · exact rdone_rest h hB i hk h0 h8
end Go.Proofs.YthlofmnmacpogaaGreatDoor
namespace Go.Proofs.YthlofmnmacpogaaGreatDoor
open Go.RowKit
theorem dread_any (s:ByteArray) (w:World) (hm:MaxCell w) (hs:s.size≤4294967200) :
 Calls Tryz.prog 8 #[.string s] w (DReadPost w (readD s)):=by
 by_cases h0: (tokRes s).er=0
 · exact dread_ok s w hm hs h0
 · exact dread_bad s w hm hs h0
def awake7T:ByteArray:=⟨#[115,116,97,103,101,32,115,59,32,97,116,116,114,32,97,32,61,32,45,49,59]⟩
theorem awake7T_tok:tokRes awake7T= ⟨0,0,0,0,[⟨2,⟨#[115,116,97,103,101]⟩,0,1,1⟩,⟨1,⟨#[115]⟩,0,1,7⟩,⟨4,⟨#[59]⟩,0,1,8⟩,⟨2,⟨#[97,116,116,114]⟩,0,1,10⟩,⟨1,⟨#[97]⟩,0,1,15⟩,⟨4,⟨#[61]⟩,0,1,17⟩,⟨3,⟨#[45,49]⟩,-1,1,19⟩,⟨4,⟨#[59]⟩,0,1,21⟩,⟨5,⟨#[]⟩,0,1,22⟩]⟩:=by kernel_rfl
theorem awake7T_read:readD awake7T=.ok [⟨4,⟨#[115]⟩,1,1,0,[],⟨#[]⟩,⟨#[]⟩,⟨#[]⟩,0,[],false⟩,⟨1,⟨#[97]⟩,1,10,-1,[],⟨#[]⟩,⟨#[]⟩,⟨#[]⟩,0,[],false⟩]:=by
 unfold readD
 rw[awake7T_tok]
 kernel_rfl
theorem two_of {l:List Sv} {a b:St} (h:l.map (·.1)= [a,b]):∃ p q:Sv,l= [p,q]∧p.1=a∧q.1=b:=by
 match l,h with
 | [p,q],h=>
   simp only[List.map_cons,List.map_nil,List.cons.injEq,and_true] at h
   exact⟨p,q,rfl,h.1,h.2⟩
theorem svFlat_two (p q:Sv):svFlat [p,q]= [.int .i64 p.1.kind,.string p.1.name,.int .i64 p.1.line,.int .i64 p.1.col,.int .i64 p.1.init,p.2.1,.string p.1.role,.string p.1.stage,.string p.1.event,.int .i64 p.1.times,p.2.2,.bool p.1.final,.int .i64 q.1.kind,.string q.1.name,.int .i64 q.1.line,.int .i64 q.1.col,.int .i64 q.1.init,q.2.1,.string q.1.role,.string q.1.stage,.string q.1.event,.int .i64 q.1.times,q.2.2,.bool q.1.final]:=rfl
set_option maxHeartbeats 4000000 in
theorem awake07 (w:World) (hm:MaxCell w) :
 Calls Tryz.prog 7 #[] w fun e w'=>e=.returned (.bool true)∧Below w.heap.size w w':=by
 have HW:=Lib.hid (dread_any awake7T w hm (by decide))
 have HA:=Lib.hid awake7T_read
 go_enter Tryz.func7,Tryz.ntmps7
 go_wp2_with fail
 refine HW.out.mono ?_
 rw[HA.out]
 rintro e w1 ⟨l,v,hl,rfl,hr,hb1⟩
 obtain⟨p,q,rfl,hp,hq⟩:=two_of hl
 have hown:=hr.row
 simp only[List.length_cons,List.length_nil,Nat.zero_add,Nat.reduceAdd] at hown
 obtain⟨g,cap,rfl,hg,hgs⟩:=owns_shape hown (by omega)
 have c0:=World.ownsRow.cellAt hown 0 (by omega)
 have c1:=World.ownsRow.cellAt hown 1 (by omega)
 have c14:=World.ownsRow.cellAt hown 14 (by omega)
 have c15:=World.ownsRow.cellAt hown 15 (by omega)
 have c16:=World.ownsRow.cellAt hown 16 (by omega)
 have HB:=Lib.hid hb1
 clear hown hb1 hr
 rw[svFlat_two] at c0 c1 c14 c15 c16
 simp only[List.getElem?_cons_zero,List.getElem?_cons_succ] at c0 c1 c14 c15 c16
 rw[show p.1.kind=4 by rw[hp]] at c0
 rw[show p.1.name= ⟨#[115]⟩ by rw[hp]] at c1
 rw[show q.1.line=1 by rw[hq]] at c14
 rw[show q.1.col=10 by rw[hq]] at c15
 rw[show q.1.init= -1 by rw[hq]] at c16
 clear hp hq hl
 go_wp2
 go_ret
 exact⟨rfl,HB.out.alloc HB.out.size _⟩
end Go.Proofs.YthlofmnmacpogaaGreatDoor
namespace Go.Proofs.YthlofmnmacpogaaGreatDoor
open Go.RowKit
def bare (x:It):It:={ x with line:=0,col:=0 }
end Go.Proofs.YthlofmnmacpogaaGreatDoor
namespace Go.Proofs.YthlofmnmacpogaaGreatDoor
open Go.RowKit
theorem bare_eq {x y:It} (h:bare x=bare y):x.op=y.op∧x.ln=y.ln∧x.lnum=y.lnum∧x.rn=y.rn∧x.rnum=y.rnum∧x.name=y.name∧x.user=y.user:=by
 simp only[bare,It.mk.injEq] at h
 exact⟨h.1,h.2.1,h.2.2.1,h.2.2.2.1,h.2.2.2.2.1,h.2.2.2.2.2.1,h.2.2.2.2.2.2.1⟩
set_option maxRecDepth 100000 in
set_option maxHeartbeats 4000000 in
theorem same4_any {w:World} {u v:Value} {S T:List It} (ha:ItRow w u S) (hb:ItRow w v T) (hST:S.map bare=T.map bare) :
 Calls Tryz.prog 36 #[u,v] w fun e w'=>e=.returned (.bool true)∧∃ n,w'=w.drewN n:=by
 have hl:S.length=T.length:=by simpa using congrArg List.length hST
 obtain⟨ad,cap,hu⟩:=ha.len
 obtain⟨ad2,cap2,hv⟩:=hb.len
 rw[←hl] at hv
 have hT:S.length≤9223372036854775807:=by obtain⟨_,h⟩:=ha;exact owns_max h
 have HA:=Lib.hid ha
 have HB:=Lib.hid hb
 have HST:=Lib.hid hST
 have HL:=Lib.hid hl
 subst hu
 subst hv
 clear ha hb hl hST
 go_enter Tryz.func36,Tryz.ntmps36
 go_wp2
 go_loopw [5] (fun i wr=>∃ k n:Nat,i=.int .i64 k∧k≤S.length∧wr=w.drewN n) (fun i _=>S.length - (intOf i).toNat)
 case atStart=>exact⟨0,0,by go_num,by omega,rfl⟩
 case round=>
  obtain⟨k,n,rfl,hk,rfl⟩:=hrel
  by_cases hlt:k < S.length
  · obtain⟨x,hx⟩:∃ x,S[k]?=some x:=⟨_,List.getElem?_eq_getElem hlt⟩
    obtain⟨y,hy⟩:∃ y,T[k]?=some y:=⟨_,List.getElem?_eq_getElem (by rw[←HL.out];exact hlt)⟩
    have hxy:bare x=bare y:=by
     have h1: (S.map bare)[k]?=some (bare x):=by rw[List.getElem?_map,hx];rfl
     have h2: (T.map bare)[k]?=some (bare y):=by rw[List.getElem?_map,hy];rfl
     rw[HST.out,h2] at h1
     exact(Option.some.inj h1).symm
    obtain⟨e1,e2,e3,e4,e5,e6,e7⟩:=bare_eq hxy
    obtain⟨g,c1,hg,hgl,a0,a1,a2,a3,a4,a5,a6,a7,a8⟩:=HA.out.at hx
    obtain⟨g2,c2,hg2,hgl2,b0,b1,b2,b3,b4,b5,b6,b7,b8⟩:=HB.out.at hy
    rw[←HL.out] at hg2
    simp only[Value.slice.injEq,true_and] at hg hg2
    obtain⟨rfl,rfl⟩:=hg
    obtain⟨rfl,rfl⟩:=hg2
    rw[←e1] at b0
    rw[←e2] at b1
    rw[←e3] at b2
    rw[←e4] at b3
    rw[←e5] at b4
    rw[←e6] at b5
    rw[←e7] at b6
    have hkz: (k:Int) < (S.length:Int):=by omega
    clear hx hy hxy e1 e2 e3 e4 e5 e6 e7
    go_wp2
    go_quiet (fail)
    go_wp2
    go_roundw
    case rel=>exact⟨k+1,_,by go_num,by omega,rfl⟩
    case measure=>simp[intOf];omega
  · have hkz: (S.length:Int)≤(k:Int):=by omega
    go_wp2
    go_ret
    exact⟨rfl,n,rfl⟩
set_option maxHeartbeats 4000000 in
theorem exact_big {w:World} {u v:Value} {T:List It} (ha:ItRow w u T) (hb:ItRow w v T) :
 Calls Tryz.prog 16 #[u,v] w fun e w'=>e=.returned (.bool true)∧∃ n,w'=w.drewN n:=by
 obtain⟨ad,cap,hu⟩:=ha.len
 obtain⟨ad2,cap2,hv⟩:=hb.len
 have hT:T.length≤9223372036854775807:=by obtain⟨_,h⟩:=ha;exact owns_max h
 have HA:=Lib.hid ha
 have HB:=Lib.hid hb
 subst hu
 subst hv
 clear ha hb
 go_enter Tryz.func16,Tryz.ntmps16
 go_wp2
 go_loopw [5] (fun i wr=>∃ k n:Nat,i=.int .i64 k∧k≤T.length∧wr=w.drewN n) (fun i _=>T.length - (intOf i).toNat)
 case atStart=>exact⟨0,0,by go_num,by omega,rfl⟩
 case round=>
  obtain⟨k,n,rfl,hk,rfl⟩:=hrel
  by_cases hlt:k < T.length
  · obtain⟨x,hx⟩:∃ x,T[k]?=some x:=⟨_,List.getElem?_eq_getElem hlt⟩
    obtain⟨g,c1,hg,hgl,a0,a1,a2,a3,a4,a5,a6,a7,a8⟩:=HA.out.at hx
    obtain⟨g2,c2,hg2,hgl2,b0,b1,b2,b3,b4,b5,b6,b7,b8⟩:=HB.out.at hx
    simp only[Value.slice.injEq,true_and] at hg hg2
    obtain⟨rfl,rfl⟩:=hg
    obtain⟨rfl,rfl⟩:=hg2
    have hkz: (k:Int) < (T.length:Int):=by omega
    clear hx
    go_wp2
    go_quiet (fail)
    go_wp2
    go_roundw
    case rel=>exact⟨k+1,_,by go_num,by omega,rfl⟩
    case measure=>simp[intOf];omega
  · have hkz: (T.length:Int)≤(k:Int):=by omega
    go_wp2
    go_ret
    exact⟨rfl,n,rfl⟩
end Go.Proofs.YthlofmnmacpogaaGreatDoor
namespace Go.Proofs.YthlofmnmacpogaaGreatDoor
open Go.RowKit
end Go.Proofs.YthlofmnmacpogaaGreatDoor
namespace Go.Proofs.YthlofmnmacpogaaGreatDoor
open Go.RowKit
abbrev svV (x:Sv):Value:=.agg #[.int .i64 x.1.kind,.string x.1.name,.int .i64 x.1.line,.int .i64 x.1.col,.int .i64 x.1.init,x.2.1,.string x.1.role,.string x.1.stage,.string x.1.event,.int .i64 x.1.times,x.2.2,.bool x.1.final]
set_option maxRecDepth 100000 in
set_option maxHeartbeats 4000000 in
theorem like_cells {w:World} {k l c l2 c2 ini tm:Int} {nm ro st ev:ByteArray} {fi:Bool} {v1 v2 u1 u2:Value} {ns:List ByteArray} {S T:List It} (hn:NmRow w v1 ns) (hm:NmRow w u1 ns) (hi:ItRow w v2 S) (hj:ItRow w u2 T) (hST:S.map bare=T.map bare) :
 Calls Tryz.prog 15 #[.agg #[.int .i64 k,.string nm,.int .i64 l,.int .i64 c,.int .i64 ini,v1,.string ro,.string st,.string ev,.int .i64 tm,v2,.bool fi],.agg #[.int .i64 k,.string nm,.int .i64 l2,.int .i64 c2,.int .i64 ini,u1,.string ro,.string st,.string ev,.int .i64 tm,u2,.bool fi]] w fun e w'=>e=.returned (.bool true)∧Below w.heap.size w w':=by
 have HB:=(((Below.refl _ w).alloc (Nat.le_refl _) (.cells #[.int .i64 k,.string nm,.int .i64 l,.int .i64 c,.int .i64 ini,v1,.string ro,.string st,.string ev,.int .i64 tm,v2,.bool fi] 37)).alloc (by simp) (.cells #[.int .i64 k,.string nm,.int .i64 l2,.int .i64 c2,.int .i64 ini,u1,.string ro,.string st,.string ev,.int .i64 tm,u2,.bool fi] 37))
 have h1:StB ((w.alloc (.cells #[.int .i64 k,.string nm,.int .i64 l,.int .i64 c,.int .i64 ini,v1,.string ro,.string st,.string ev,.int .i64 tm,v2,.bool fi] 37)).alloc (.cells #[.int .i64 k,.string nm,.int .i64 l2,.int .i64 c2,.int .i64 ini,u1,.string ro,.string st,.string ev,.int .i64 tm,u2,.bool fi] 37)) w.heap.size ⟨k,nm,l,c,ini,[],ro,st,ev,tm,[],fi⟩ v1 v2:=StB.alloc (x:=⟨k,nm,l,c,ini,[],ro,st,ev,tm,[],fi⟩) (heap_alloc_new w _) _
 have h2:StB ((w.alloc (.cells #[.int .i64 k,.string nm,.int .i64 l,.int .i64 c,.int .i64 ini,v1,.string ro,.string st,.string ev,.int .i64 tm,v2,.bool fi] 37)).alloc (.cells #[.int .i64 k,.string nm,.int .i64 l2,.int .i64 c2,.int .i64 ini,u1,.string ro,.string st,.string ev,.int .i64 tm,u2,.bool fi] 37)) (w.heap.size+1) ⟨k,nm,l2,c2,ini,[],ro,st,ev,tm,[],fi⟩ u1 u2:=heap_at_size _ _ _ (by simp)
 have hn2:=hn.keep HB
 have hm2:=hm.keep HB
 have hi2:=hi.keep HB
 have hj2:=hj.keep HB
 obtain⟨a0,a1,a2,a3,a4,a5,a6,a7,a8,a9,a10,a11⟩:=h1.facts
 obtain⟨b0,b1,b2,b3,b4,b5,b6,b7,b8,b9,b10,b11⟩:=h2.facts
 dsimp only at a0 a1 a2 a3 a4 a5 a6 a7 a8 a9 a10 a11 b0 b1 b2 b3 b4 b5 b6 b7 b8 b9 b10 b11
 have HC1:=Lib.hid (sameNames_any hn2 hm2)
 have HC2:=Lib.hid (fun n=>same4_any (w:=((w.alloc (.cells #[.int .i64 k,.string nm,.int .i64 l,.int .i64 c,.int .i64 ini,v1,.string ro,.string st,.string ev,.int .i64 tm,v2,.bool fi] 37)).alloc (.cells #[.int .i64 k,.string nm,.int .i64 l2,.int .i64 c2,.int .i64 ini,u1,.string ro,.string st,.string ev,.int .i64 tm,u2,.bool fi] 37)).drewN n) (hi2.drewN n) (hj2.drewN n) hST)
 have HB2:=Lib.hid HB
 clear hn hm hi hj hST HB h1 h2 hn2 hm2 hi2 hj2
 go_enter Tryz.func15,Tryz.ntmps15
 go_wp2_with fail
 refine HC1.out.mono ?_
 rintro e w1 ⟨rfl,n,rfl⟩
 go_wp2_with fail
 refine(HC2.out n).mono ?_
 rintro e w1 ⟨rfl,m,rfl⟩
 go_wp2
 go_ret
 exact⟨rfl,below_drewN HB2.out _⟩
end Go.Proofs.YthlofmnmacpogaaGreatDoor
