/- A part of a proof of DeclReadsProof. -/
import Derived.Test.YthlofmnmacpogaaGreatDoorRt46
set_option maxRecDepth 100000
set_option maxHeartbeats 40000000
namespace Go.Proofs.YthlofmnmacpogaaGreatDoor
open Go.RowKit
theorem rdone_none {w:World} {B:Nat} {lv:Value} {T:List Tk} (h:TkIn w B lv T) (hB:B≤w.heap.size) (i:Int) (hn: (tkAt T i).kind≠2∨kindN (tkAt T i).text=0) :
 Calls Tryz.prog 12 #[lv,.int .i64 i] w (RdOne w (oneD T i)):=by
 have hTl:T.length≤1000000:=by obtain⟨_,_,_,hl,_⟩:=h;exact hl
 have HTK:Hid (∀ W,Below w.heap.size w W→TkIn W B lv T):=fun W hW=>h.below (hW.mono hB)
 have HBB:=Lh hB
 have hal1:Below w.heap.size w ((w.alloc oB5).alloc oB3):=((Below.refl _ _).alloc (Nat.le_refl _) _).alloc (by simp) _
 have st1:StB ((w.alloc oB5).alloc oB3) w.heap.size noSt (.slice none 0 0) (.slice none 0 0):=StB.alloc (x:=noSt) (heap_alloc_new w _) _
 have ft1:FtB ((w.alloc oB5).alloc oB3) (w.heap.size+1) 0 0 0:=heap_at_size _ _ _ (by simp)
 obtain⟨W1,hW1⟩:∃ W,((w.alloc oB5).alloc oB3)=W:=⟨_,rfl⟩
 rw[hW1] at hal1 st1 ft1
 have HT:=Lh (rdtok_any (HTK.out _ hal1) i)
 obtain⟨x,hx⟩:∃ x,tkAt T i=x:=⟨_,rfl⟩
 have HX:=Lh hx
 have HO:Hid (oneD T i=.bad 4 x.line x.col):=by unfold Hid oneD;rw[if_pos hn,hx]
 have hfd: (tkAt T i).line=x.line∧(tkAt T i).col=x.col:=by rw[hx];exact⟨rfl,rfl⟩
 have HFD:=Lh hfd
 rw[hx] at hn
 have HN:=Lh hn
 have HBA:=fun W (hW:Below w.heap.size w W)=>rdbad_any (HTK.out W hW) (Nat.le_trans HBB.out hW.size) ⟨i,noSt,0,0,0⟩ (nv:=(.slice none 0 0)) (iv:=(.slice none 0 0)) ⟨_,_,_,rfl⟩ ⟨_,_,_,rfl⟩ 4
 have hfr:failD T 4 ⟨i,noSt,0,0,0⟩ = ⟨i,noSt,4,x.line,x.col⟩:=by unfold failD;rw[if_pos rfl,←HFD.out.1,←HFD.out.2]
 rw[hfr] at HBA
 obtain⟨Rb,hRb⟩:∃ R,(⟨i,noSt,4,x.line,x.col⟩:RS)=R:=⟨_,rfl⟩
 rw[hRb] at HBA
 have HRE:Hid (Rb.er=4∧Rb.line=x.line∧Rb.col=x.col):=by rw[←hRb];exact⟨rfl,rfl,rfl⟩
 replace HBA:=Lh HBA
 have HOR:Hid (oneD T i=.bad Rb.er Rb.line Rb.col):=by unfold Hid;rw[HO.out,HRE.out.1,HRE.out.2.1,HRE.out.2.2]
 clear hn hfr hfd hRb
 clear h hB hx
 go_enter Tryz.func12,Tryz.ntmps12
 go_wp2_with (first| (refine lP rfl rfl rfl (by assumption) ?_)| (refine sP rfl rfl rfl rfl (by assumption) ?_)|fail)
 refine HT.out.mono ?_
 rintro en w2 ⟨rfl,hb2⟩
 rw[HX.out]
 unfold tokV
 have hs1:=ft1.lt
 have hs2:=hb2.size
 have hal2:Below w2.heap.size w2 ((w2.alloc (tO x)).alloc (.cells #[.int .i64 0,.string ⟨#[]⟩,.int .i64 0,.int .i64 0,.int .i64 0,.slice none 0 0,.string ⟨#[]⟩,.string ⟨#[]⟩,.string ⟨#[]⟩,.int .i64 0,.slice none 0 0,.bool false,.int .i64 i,.int .i64 0,.int .i64 0,.int .i64 0] 62)):=((Below.refl _ _).alloc (Nat.le_refl _) _).alloc (by simp) _
 have t2: ((w2.alloc (tO x)).alloc (.cells #[.int .i64 0,.string ⟨#[]⟩,.int .i64 0,.int .i64 0,.int .i64 0,.slice none 0 0,.string ⟨#[]⟩,.string ⟨#[]⟩,.string ⟨#[]⟩,.int .i64 0,.slice none 0 0,.bool false,.int .i64 i,.int .i64 0,.int .i64 0,.int .i64 0] 62)).heap[w2.heap.size]?=some (.cells #[.int .i64 x.kind,.string x.text,.int .i64 x.num,.int .i64 x.line,.int .i64 x.col] 48 (0,0)):=by
  rw[Below.heap_alloc _ _ _ (by simp)];exact heap_alloc_new w2 _
 have p2:PB ((w2.alloc (tO x)).alloc (.cells #[.int .i64 0,.string ⟨#[]⟩,.int .i64 0,.int .i64 0,.int .i64 0,.slice none 0 0,.string ⟨#[]⟩,.string ⟨#[]⟩,.string ⟨#[]⟩,.int .i64 0,.slice none 0 0,.bool false,.int .i64 i,.int .i64 0,.int .i64 0,.int .i64 0] 62)) (w2.heap.size+1) ⟨i,noSt,0,0,0⟩ (.slice none 0 0) (.slice none 0 0):=heap_at_size _ _ _ (by simp)
 have r2:RS1 w ((w2.alloc (tO x)).alloc (.cells #[.int .i64 0,.string ⟨#[]⟩,.int .i64 0,.int .i64 0,.int .i64 0,.slice none 0 0,.string ⟨#[]⟩,.string ⟨#[]⟩,.string ⟨#[]⟩,.int .i64 0,.slice none 0 0,.bool false,.int .i64 i,.int .i64 0,.int .i64 0,.int .i64 0] 62)) (w2.heap.size+1):=⟨(st1.below hb2).below hal2,(ft1.below hb2).below hal2,(hal1.trans (hb2.mono hal1.size)).trans (hal2.mono (Nat.le_trans hal1.size hb2.size)),by omega⟩
 obtain⟨W2,hW2⟩:∃ W,((w2.alloc (tO x)).alloc (.cells #[.int .i64 0,.string ⟨#[]⟩,.int .i64 0,.int .i64 0,.int .i64 0,.slice none 0 0,.string ⟨#[]⟩,.string ⟨#[]⟩,.string ⟨#[]⟩,.int .i64 0,.slice none 0 0,.bool false,.int .i64 i,.int .i64 0,.int .i64 0,.int .i64 0] 62))=W:=⟨_,rfl⟩
 rw[hW2] at hal2 t2 p2 r2
 replace hW2:=Lh hW2
 go_upto_region 3 with fail
 rw[hW2.out]
 have o0:W2.cell? ⟨w2.heap.size,0,none⟩ = some (.int .i64 x.kind):=by simp[World.cell?,t2]
 have o1:W2.cell? ⟨w2.heap.size,1,none⟩ = some (.string x.text):=by simp[World.cell?,t2]
 have R2:=Lh r2
 clear hal1 st1 ft1 hb2 hal2 r2 HT hs1
 have HNK:=Lh (rdkind_any x.text W2)
 by_cases hk:x.kind=2
 · have hkb: (x.kind !=2)=false:=by simpa using hk
   have h0:kindN x.text=0:=HN.out.resolve_left (fun h=>h hk)
   rw[h0] at HNK
   clear hk h0
   go_wp2_with (first| (refine lP rfl rfl rfl (by assumption) ?_)| (refine sP rfl rfl rfl rfl (by assumption) ?_)|fail)
   refine HNK.out.mono ?_
   rintro en w3 ⟨rfl,hb3⟩
   have p3:=p2.below hb3
   have R3:=Lh (R2.out.below hb3)
   clear hb3 p2 t2 HNK
   go_wp2_with (first| (refine lP rfl rfl rfl (by assumption) ?_)| (refine sP rfl rfl rfl rfl (by assumption) ?_)|fail)
   refine(HBA.out _ R3.out.lo).mono ?_
   rintro en w4 ⟨rfl,hb4⟩
   have p4:=p3.below hb4
   have R4:=Lh (R3.out.below hb4)
   clear hb4 p3
   go_wp2_with (first| (refine lP rfl rfl rfl (by assumption) ?_)| (refine sP rfl rfl rfl rfl (by assumption) ?_)|fail)
   unfold Hid
   intro W5 p5 k5
   have R5:=Lh (R4.out.kept k5)
   clear k5 p4
   have HBD:=Lh ((R5.out.done noSt (.slice none 0 0) (.slice none 0 0) Rb.er Rb.line Rb.col))
   try clear e0 e1 e2 e3 e4 e5 e6 e7 e8 e9 e10 e11 e12 e13 e14 e15
   try clear v0 v1 v2 v3 v4 v5 v6 v7 v8 v9 v10 v11 v12 v13 v14 v15
   obtain⟨e0,e1,e2,e3,e4,e5,e6,e7,e8,e9,e10,e11,e12,e13,e14,e15⟩:=p5.facts
   obtain⟨s0,s1,s2,s3,s4,s5,s6,s7,s8,s9,s10,s11⟩:=R5.out.st.facts
   obtain⟨y0,y1,y2,y3,y4,y5,y6,y7,y8,y9,y10,y11⟩:=R5.out.st.free
   obtain⟨m0,m1,m2⟩:=R5.out.ft.facts
   obtain⟨n0,n1,n2⟩:=R5.out.ft.free
   clear p5
   go_wp2
   go_region
   go_wp2
   refine bodyPost_ret (oneR_results HBD.out.1.drew HBD.out.2.1.drew 0 rfl rfl rfl) rfl ?_
   rw[HOR.out]
   exact⟨rfl,HBD.out.2.2.drew⟩
 · have hkb: (x.kind !=2)=true:=by simpa using hk
   clear hk HNK
   go_wp2_with (first| (refine lP rfl rfl rfl (by assumption) ?_)| (refine sP rfl rfl rfl rfl (by assumption) ?_)|fail)
   refine(HBA.out _ R2.out.lo).mono ?_
   rintro en w4 ⟨rfl,hb4⟩
   have p4:=p2.below hb4
   have R4:=Lh (R2.out.below hb4)
   clear hb4 p2 t2
   go_wp2_with (first| (refine lP rfl rfl rfl (by assumption) ?_)| (refine sP rfl rfl rfl rfl (by assumption) ?_)|fail)
   unfold Hid
   intro W5 p5 k5
   have R5:=Lh (R4.out.kept k5)
   clear k5 p4
   have HBD:=Lh ((R5.out.done noSt (.slice none 0 0) (.slice none 0 0) Rb.er Rb.line Rb.col))
   try clear e0 e1 e2 e3 e4 e5 e6 e7 e8 e9 e10 e11 e12 e13 e14 e15
   try clear v0 v1 v2 v3 v4 v5 v6 v7 v8 v9 v10 v11 v12 v13 v14 v15
   obtain⟨e0,e1,e2,e3,e4,e5,e6,e7,e8,e9,e10,e11,e12,e13,e14,e15⟩:=p5.facts
   obtain⟨s0,s1,s2,s3,s4,s5,s6,s7,s8,s9,s10,s11⟩:=R5.out.st.facts
   obtain⟨y0,y1,y2,y3,y4,y5,y6,y7,y8,y9,y10,y11⟩:=R5.out.st.free
   obtain⟨m0,m1,m2⟩:=R5.out.ft.facts
   obtain⟨n0,n1,n2⟩:=R5.out.ft.free
   clear p5
   go_wp2
   go_region
   go_wp2
   refine bodyPost_ret (oneR_results HBD.out.1.drew HBD.out.2.1.drew 0 rfl rfl rfl) rfl ?_
   rw[HOR.out]
   exact⟨rfl,HBD.out.2.2.drew⟩
end Go.Proofs.YthlofmnmacpogaaGreatDoor
