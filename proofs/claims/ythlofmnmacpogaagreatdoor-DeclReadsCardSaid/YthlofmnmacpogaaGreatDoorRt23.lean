/- A part of a proof of DeclReadsProof. -/
import Derived.Test.YthlofmnmacpogaaGreatDoorRt20
set_option maxRecDepth 100000
set_option maxHeartbeats 40000000
namespace Go.Proofs.YthlofmnmacpogaaGreatDoor
open Go.RowKit
theorem rone_word1 {w:World} {v:Value} {s:ByteArray} {L:List Rn} {i:Nat} (h:RR w v L) (hO:RnOk s L) (hs:s.size≤4294967200) (hi:i < L.length) (hl:letterB (rAt L i)=true) (hsm0:smallB (rAt L i)=true) :
 Calls Tryz.prog 33 #[.string s,v,.int .i64 i] w (ROne w ⟨wordKind (txt s L i (wordN L i)),txt s L i (wordN L i),0,lineAt L i,colAt L i⟩ (i+wordN L i) (wordErr (txt s L i (wordN L i)))):=by
 obtain⟨x,hx⟩:∃ x,L[i]?=some x:=⟨_,List.getElem?_eq_getElem hi⟩
 obtain⟨⟨y,hy⟩,hn1,_⟩:=word_pre hO hi hl
 obtain⟨hg1,hg2⟩:=hO.le _ _ x y (by omega) hx hy
 have hL:=hO.len
 have hte:s.extract x.fr y.to=txt s L i (wordN L i):=by unfold txt;rw[(at_some hx).2.1,(at_some hy).2.2.1]
 have hrow:rowE innerB L i=i+wordN L i:=by unfold wordN at *;omega
 have hts: (txt s L i (wordN L i)).size≤s.size:=by rw[←hte,ByteArray.size_extract];omega
 rw[(at_some hx).2.2.2.1,(at_some hx).2.2.2.2]
 obtain⟨g,cap,hv,d0,d1,d2,d3,d4⟩:=h.rune hx
 obtain⟨g',cap',hv',_,_,e2,_,_⟩:=h.rune hy
 rw[hv] at hv'
 simp only[Value.slice.injEq,Option.some.injEq,Addr.mk.injEq,true_and,and_true] at hv'
 obtain⟨rfl,rfl⟩:=hv'
 subst hv
 have hgl:=World.block_lt_of_cell? w _ d0
 obtain⟨t,ht⟩:∃ t,txt s L i (wordN L i)=t:=⟨_,rfl⟩
 obtain⟨n,hnn⟩:∃ n,wordN L i=n:=⟨_,rfl⟩
 rw[ht] at hte hts ⊢
 rw[hnn] at hn1 hrow hy e2 ⊢
 clear ht hnn
 have hc:x.r=rAt L i:=(rAt_some hx).symm
 rw[←hc] at hl hsm0
 obtain⟨c,hcc⟩:∃ c,x.r=c:=⟨_,rfl⟩
 rw[hcc] at hl d0 hsm0
 have HR:=Lh h
 have HI:=Lh (And.intro hrow hte)
 have hjl:=(List.getElem?_eq_some_iff.1 hy).1
 have hiz: (i:Int) < (L.length:Int):=by omega
 have hjz: (i:Int)+n - 1 < (L.length:Int):=by omega
 have hjz0: (0:Int)≤(i:Int)+n - 1:=by omega
 have hjt: ((i:Int)+ (n:Int) - 1).toNat=i+ (n - 1):=by omega
 have hw2:IntKind.i64.wrap ((i:Int)+ (n:Int) - 1)= (i:Int)+n - 1:=IntWalk.i64_in _ (by omega)
 have hq1: (1:Int)≤(i:Int)+n:=by omega
 have hxz: (x.fr:Int)≤(y.to:Int):=by omega
 have hyz: (y.to:Int)≤(s.size:Int):=by omega
 have hfz:¬(y.to:Int) < (x.fr:Int):=by omega
 have hne: ((i:Int)+ (n:Int) == (i:Int))=false:=beq_eq_false_iff_ne.2 (by omega)
 have HS:=Lh hl
 have HSM:=Lh hsm0
 have HLE:Hid (letterB c= (smallB c || greatB c)):=rfl
 clear hsm0 h hO hx hy hrow hte hl hc hcc hi hjl
 go_enter Tryz.func33,Tryz.ntmps33
 go_wp2_with fail
 refine(rsmallB_any c _).mono ?_
 rintro e w' ⟨rfl,rfl⟩
 rw[HSM.out]
 go_wp2_with fail
 refine(rword_any (HR.out.keep ((Below.refl _ _).alloc (Nat.le_refl _) _ |>.alloc (by simp) _)) i (by omega) (by omega)).mono ?_
 rintro e w' ⟨rfl,rfl⟩
 rw[HI.out.1]
 go_wp2_with fail
 go_region_held3 (fun w'=>w'.cell? ⟨g,i * 5+1,none⟩ = some (.int .i64 x.fr)∧w'.cell? ⟨g,(i+ (n - 1)) * 5+2,none⟩ = some (.int .i64 y.to))
  (first|go_keep)
  (first|fail)
 rw[HI.out.2]
 go_wp2_with fail
 refine(rknown_any t _).mono ?_
 rintro e w2 ⟨rfl,hb2⟩
 have hT:=(TkAt.new (w.alloc oB11) 1 0 x.line x.col t)
 rw[show(w.alloc oB11).heap.size=w.heap.size+1 by simp] at hT
 replace hT:=hT.drew.below hb2 (by simp)
 have hR:=(((TkAt.new w 0 0 0 0 ⟨#[]⟩).alloc (.cells #[.int .i64 1,.string t,.int .i64 0,.int .i64 x.line,.int .i64 x.col] 48)).drew).below hb2 (by simp;omega)
 have HB2:=Lh (((((Below.refl w.heap.size w).alloc (Nat.le_refl _) oB11).alloc (by simp) (.cells #[.int .i64 1,.string t,.int .i64 0,.int .i64 x.line,.int .i64 x.col] 48)).drew).trans (hb2.mono (by simp;omega)))
 clear hb2
 cases hkn:knownB t
 · have HWK:Hid (wordKind t=1):=by unfold Hid wordKind;rw[hkn];rfl
   have hwe:wordErr t=if hasGreatB t then 1 else if 16 < t.size then 3 else 0:=by unfold wordErr;rw[hkn];rfl
   have HWEE:=Lh hwe
   clear hwe hkn
   obtain⟨c0,c1,c2,c3,c4⟩:=hT.facts
   go_wp2_with fail
   refine(rhasGreat_any t _ (by omega)).mono ?_
   rintro e w' ⟨rfl,rfl⟩
   cases hgt:hasGreatB t
   · by_cases h16:16 < t.size
     · have HWE:Hid (wordErr t=3):=by unfold Hid;rw[HWEE.out,hgt,if_neg (by simp),if_pos h16]
       have h16': (16:Int) < t.size:=by omega
       clear h16 hgt hT
       obtain⟨r0,r1,r2,r3,r4⟩:=hR.free
       obtain⟨s0,s1,s2,s3,s4⟩:=hR.facts
       obtain⟨e0,e1,e2,e3,e4⟩:=(hR.stored ⟨1,t,0,x.line,x.col⟩).facts
       have HBF:=Lh (below_stored (HB2.out) (Nat.le_refl w.heap.size) ⟨1,t,0,x.line,x.col⟩)
       clear hR
       go_wp2
       exact bodyPost_ret (v:=.tuple #[tkV ⟨1,t,0,x.line,x.col⟩,.int .i64 ((i:Int)+n),.int .i64 3]) (by simp[results,Tryz.results33,go_sem,tkV,e0,e1,e2,e3,e4]) rfl ⟨by rw[HWK.out,HWE.out];rfl,HBF.out⟩
     · have HWE:Hid (wordErr t=0):=by unfold Hid;rw[HWEE.out,hgt,if_neg (by simp),if_neg h16]
       have h16': (t.size:Int)≤16:=by omega
       clear h16 hgt hT
       obtain⟨r0,r1,r2,r3,r4⟩:=hR.free
       obtain⟨s0,s1,s2,s3,s4⟩:=hR.facts
       obtain⟨e0,e1,e2,e3,e4⟩:=(hR.stored ⟨1,t,0,x.line,x.col⟩).facts
       have HBF:=Lh (below_stored (HB2.out) (Nat.le_refl w.heap.size) ⟨1,t,0,x.line,x.col⟩)
       clear hR
       go_wp2
       exact bodyPost_ret (v:=.tuple #[tkV ⟨1,t,0,x.line,x.col⟩,.int .i64 ((i:Int)+n),.int .i64 0]) (by simp[results,Tryz.results33,go_sem,tkV,e0,e1,e2,e3,e4]) rfl ⟨by rw[HWK.out,HWE.out];rfl,HBF.out⟩
   · have HWE:Hid (wordErr t=1):=by unfold Hid;rw[HWEE.out,hgt];rfl
     clear hgt hT
     obtain⟨r0,r1,r2,r3,r4⟩:=hR.free
     obtain⟨s0,s1,s2,s3,s4⟩:=hR.facts
     obtain⟨e0,e1,e2,e3,e4⟩:=(hR.stored ⟨1,t,0,x.line,x.col⟩).facts
     have HBF:=Lh (below_stored (HB2.out) (Nat.le_refl w.heap.size) ⟨1,t,0,x.line,x.col⟩)
     clear hR
     go_wp2
     exact bodyPost_ret (v:=.tuple #[tkV ⟨1,t,0,x.line,x.col⟩,.int .i64 ((i:Int)+n),.int .i64 1]) (by simp[results,Tryz.results33,go_sem,tkV,e0,e1,e2,e3,e4]) rfl ⟨by rw[HWK.out,HWE.out];rfl,HBF.out⟩
 · have HWK:Hid (wordKind t=2):=by unfold Hid wordKind;rw[hkn];rfl
   have HWE:Hid (wordErr t=0):=by unfold Hid wordErr;rw[hkn];rfl
   clear hkn
   have hT0:=hT.facts
   have hf0:=hT.free.1
   obtain⟨c0,c1,c2,c3,c4⟩:=(hT.setKind 2).facts
   have hR2:=hR.setOther (g:=w.heap.size+1) (j:=0) (by omega) (.int .i64 2)
   obtain⟨k0,_,_,_,_⟩:=hT0
   have HB3:=Lh (HB2.out.setCell (p:=⟨w.heap.size+1,0,none⟩) (by show w.heap.size≤w.heap.size+1;omega) (.int .i64 2))
   clear hT hR
   obtain⟨r0,r1,r2,r3,r4⟩:=hR2.free
   obtain⟨s0,s1,s2,s3,s4⟩:=hR2.facts
   obtain⟨e0,e1,e2,e3,e4⟩:=(hR2.stored ⟨2,t,0,x.line,x.col⟩).facts
   have HBF:=Lh (below_stored (HB3.out) (Nat.le_refl w.heap.size) ⟨2,t,0,x.line,x.col⟩)
   clear hR2
   go_wp2
   exact bodyPost_ret (v:=.tuple #[tkV ⟨2,t,0,x.line,x.col⟩,.int .i64 ((i:Int)+n),.int .i64 0]) (by simp[results,Tryz.results33,go_sem,tkV,e0,e1,e2,e3,e4]) rfl ⟨by rw[HWK.out,HWE.out];rfl,HBF.out⟩
theorem rone_word2 {w:World} {v:Value} {s:ByteArray} {L:List Rn} {i:Nat} (h:RR w v L) (hO:RnOk s L) (hs:s.size≤4294967200) (hi:i < L.length) (hl:letterB (rAt L i)=true) (hsm0:smallB (rAt L i)=false) :
 Calls Tryz.prog 33 #[.string s,v,.int .i64 i] w (ROne w ⟨wordKind (txt s L i (wordN L i)),txt s L i (wordN L i),0,lineAt L i,colAt L i⟩ (i+wordN L i) (wordErr (txt s L i (wordN L i)))):=by
 obtain⟨x,hx⟩:∃ x,L[i]?=some x:=⟨_,List.getElem?_eq_getElem hi⟩
 obtain⟨⟨y,hy⟩,hn1,_⟩:=word_pre hO hi hl
 obtain⟨hg1,hg2⟩:=hO.le _ _ x y (by omega) hx hy
 have hL:=hO.len
 have hte:s.extract x.fr y.to=txt s L i (wordN L i):=by unfold txt;rw[(at_some hx).2.1,(at_some hy).2.2.1]
 have hrow:rowE innerB L i=i+wordN L i:=by unfold wordN at *;omega
 have hts: (txt s L i (wordN L i)).size≤s.size:=by rw[←hte,ByteArray.size_extract];omega
 rw[(at_some hx).2.2.2.1,(at_some hx).2.2.2.2]
 obtain⟨g,cap,hv,d0,d1,d2,d3,d4⟩:=h.rune hx
 obtain⟨g',cap',hv',_,_,e2,_,_⟩:=h.rune hy
 rw[hv] at hv'
 simp only[Value.slice.injEq,Option.some.injEq,Addr.mk.injEq,true_and,and_true] at hv'
 obtain⟨rfl,rfl⟩:=hv'
 subst hv
 have hgl:=World.block_lt_of_cell? w _ d0
 obtain⟨t,ht⟩:∃ t,txt s L i (wordN L i)=t:=⟨_,rfl⟩
 obtain⟨n,hnn⟩:∃ n,wordN L i=n:=⟨_,rfl⟩
 rw[ht] at hte hts ⊢
 rw[hnn] at hn1 hrow hy e2 ⊢
 clear ht hnn
 have hc:x.r=rAt L i:=(rAt_some hx).symm
 rw[←hc] at hl hsm0
 obtain⟨c,hcc⟩:∃ c,x.r=c:=⟨_,rfl⟩
 rw[hcc] at hl d0 hsm0
 have HR:=Lh h
 have HI:=Lh (And.intro hrow hte)
 have hjl:=(List.getElem?_eq_some_iff.1 hy).1
 have hiz: (i:Int) < (L.length:Int):=by omega
 have hjz: (i:Int)+n - 1 < (L.length:Int):=by omega
 have hjz0: (0:Int)≤(i:Int)+n - 1:=by omega
 have hjt: ((i:Int)+ (n:Int) - 1).toNat=i+ (n - 1):=by omega
 have hw2:IntKind.i64.wrap ((i:Int)+ (n:Int) - 1)= (i:Int)+n - 1:=IntWalk.i64_in _ (by omega)
 have hq1: (1:Int)≤(i:Int)+n:=by omega
 have hxz: (x.fr:Int)≤(y.to:Int):=by omega
 have hyz: (y.to:Int)≤(s.size:Int):=by omega
 have hfz:¬(y.to:Int) < (x.fr:Int):=by omega
 have hne: ((i:Int)+ (n:Int) == (i:Int))=false:=beq_eq_false_iff_ne.2 (by omega)
 have HS:=Lh hl
 have HSM:=Lh hsm0
 have HLE:Hid (letterB c= (smallB c || greatB c)):=rfl
 clear hsm0 h hO hx hy hrow hte hl hc hcc hi hjl
 go_enter Tryz.func33,Tryz.ntmps33
 go_wp2_with fail
 refine(rsmallB_any c _).mono ?_
 rintro e w' ⟨rfl,rfl⟩
 have hgr:greatB c=true:=by have:=HLE.out;rw[HS.out,HSM.out] at this;simpa using this.symm
 rw[HSM.out]
 go_wp2_with fail
 refine(rgreatB_any c _).mono ?_
 rintro e w' ⟨rfl,rfl⟩
 rw[hgr]
 clear hgr
 go_wp2_with fail
 refine(rword_any (HR.out.keep ((Below.refl _ _).alloc (Nat.le_refl _) _ |>.alloc (by simp) _)) i (by omega) (by omega)).mono ?_
 rintro e w' ⟨rfl,rfl⟩
 rw[HI.out.1]
 go_wp2_with fail
 go_region_held3 (fun w'=>w'.cell? ⟨g,i * 5+1,none⟩ = some (.int .i64 x.fr)∧w'.cell? ⟨g,(i+ (n - 1)) * 5+2,none⟩ = some (.int .i64 y.to))
  (first|go_keep)
  (first|fail)
 rw[HI.out.2]
 go_wp2_with fail
 refine(rknown_any t _).mono ?_
 rintro e w2 ⟨rfl,hb2⟩
 have hT:=(TkAt.new (w.alloc oB11) 1 0 x.line x.col t)
 rw[show(w.alloc oB11).heap.size=w.heap.size+1 by simp] at hT
 replace hT:=hT.drew.below hb2 (by simp)
 have hR:=(((TkAt.new w 0 0 0 0 ⟨#[]⟩).alloc (.cells #[.int .i64 1,.string t,.int .i64 0,.int .i64 x.line,.int .i64 x.col] 48)).drew).below hb2 (by simp;omega)
 have HB2:=Lh (((((Below.refl w.heap.size w).alloc (Nat.le_refl _) oB11).alloc (by simp) (.cells #[.int .i64 1,.string t,.int .i64 0,.int .i64 x.line,.int .i64 x.col] 48)).drew).trans (hb2.mono (by simp;omega)))
 clear hb2
 cases hkn:knownB t
 · have HWK:Hid (wordKind t=1):=by unfold Hid wordKind;rw[hkn];rfl
   have hwe:wordErr t=if hasGreatB t then 1 else if 16 < t.size then 3 else 0:=by unfold wordErr;rw[hkn];rfl
   have HWEE:=Lh hwe
   clear hwe hkn
   obtain⟨c0,c1,c2,c3,c4⟩:=hT.facts
   go_wp2_with fail
   refine(rhasGreat_any t _ (by omega)).mono ?_
   rintro e w' ⟨rfl,rfl⟩
   cases hgt:hasGreatB t
   · by_cases h16:16 < t.size
     · have HWE:Hid (wordErr t=3):=by unfold Hid;rw[HWEE.out,hgt,if_neg (by simp),if_pos h16]
       have h16': (16:Int) < t.size:=by omega
       clear h16 hgt hT
       obtain⟨r0,r1,r2,r3,r4⟩:=hR.free
       obtain⟨s0,s1,s2,s3,s4⟩:=hR.facts
       obtain⟨e0,e1,e2,e3,e4⟩:=(hR.stored ⟨1,t,0,x.line,x.col⟩).facts
       have HBF:=Lh (below_stored (HB2.out) (Nat.le_refl w.heap.size) ⟨1,t,0,x.line,x.col⟩)
       clear hR
       go_wp2
       exact bodyPost_ret (v:=.tuple #[tkV ⟨1,t,0,x.line,x.col⟩,.int .i64 ((i:Int)+n),.int .i64 3]) (by simp[results,Tryz.results33,go_sem,tkV,e0,e1,e2,e3,e4]) rfl ⟨by rw[HWK.out,HWE.out];rfl,HBF.out⟩
     · have HWE:Hid (wordErr t=0):=by unfold Hid;rw[HWEE.out,hgt,if_neg (by simp),if_neg h16]
       have h16': (t.size:Int)≤16:=by omega
       clear h16 hgt hT
       obtain⟨r0,r1,r2,r3,r4⟩:=hR.free
       obtain⟨s0,s1,s2,s3,s4⟩:=hR.facts
       obtain⟨e0,e1,e2,e3,e4⟩:=(hR.stored ⟨1,t,0,x.line,x.col⟩).facts
       have HBF:=Lh (below_stored (HB2.out) (Nat.le_refl w.heap.size) ⟨1,t,0,x.line,x.col⟩)
       clear hR
       go_wp2
       exact bodyPost_ret (v:=.tuple #[tkV ⟨1,t,0,x.line,x.col⟩,.int .i64 ((i:Int)+n),.int .i64 0]) (by simp[results,Tryz.results33,go_sem,tkV,e0,e1,e2,e3,e4]) rfl ⟨by rw[HWK.out,HWE.out];rfl,HBF.out⟩
   · have HWE:Hid (wordErr t=1):=by unfold Hid;rw[HWEE.out,hgt];rfl
     clear hgt hT
     obtain⟨r0,r1,r2,r3,r4⟩:=hR.free
     obtain⟨s0,s1,s2,s3,s4⟩:=hR.facts
     obtain⟨e0,e1,e2,e3,e4⟩:=(hR.stored ⟨1,t,0,x.line,x.col⟩).facts
     have HBF:=Lh (below_stored (HB2.out) (Nat.le_refl w.heap.size) ⟨1,t,0,x.line,x.col⟩)
     clear hR
     go_wp2
     exact bodyPost_ret (v:=.tuple #[tkV ⟨1,t,0,x.line,x.col⟩,.int .i64 ((i:Int)+n),.int .i64 1]) (by simp[results,Tryz.results33,go_sem,tkV,e0,e1,e2,e3,e4]) rfl ⟨by rw[HWK.out,HWE.out];rfl,HBF.out⟩
 · have HWK:Hid (wordKind t=2):=by unfold Hid wordKind;rw[hkn];rfl
   have HWE:Hid (wordErr t=0):=by unfold Hid wordErr;rw[hkn];rfl
   clear hkn
   have hT0:=hT.facts
   have hf0:=hT.free.1
   obtain⟨c0,c1,c2,c3,c4⟩:=(hT.setKind 2).facts
   have hR2:=hR.setOther (g:=w.heap.size+1) (j:=0) (by omega) (.int .i64 2)
   obtain⟨k0,_,_,_,_⟩:=hT0
   have HB3:=Lh (HB2.out.setCell (p:=⟨w.heap.size+1,0,none⟩) (by show w.heap.size≤w.heap.size+1;omega) (.int .i64 2))
   clear hT hR
   obtain⟨r0,r1,r2,r3,r4⟩:=hR2.free
   obtain⟨s0,s1,s2,s3,s4⟩:=hR2.facts
   obtain⟨e0,e1,e2,e3,e4⟩:=(hR2.stored ⟨2,t,0,x.line,x.col⟩).facts
   have HBF:=Lh (below_stored (HB3.out) (Nat.le_refl w.heap.size) ⟨2,t,0,x.line,x.col⟩)
   clear hR2
   go_wp2
   exact bodyPost_ret (v:=.tuple #[tkV ⟨2,t,0,x.line,x.col⟩,.int .i64 ((i:Int)+n),.int .i64 0]) (by simp[results,Tryz.results33,go_sem,tkV,e0,e1,e2,e3,e4]) rfl ⟨by rw[HWK.out,HWE.out];rfl,HBF.out⟩
theorem rone_any {w:World} {v:Value} {s:ByteArray} {L:List Rn} {i:Nat} (h:RR w v L) (hO:RnOk s L) (hs:s.size≤4294967200) (hi:i < L.length) :
 ∃ (x:Tk) (j:Nat) (er:Int),Calls Tryz.prog 33 #[.string s,v,.int .i64 i] w (ROne w x j er)∧
  ∀ T,(tokT s L i T).er=er∧(er=0→(tokT s L i T).T=T ++ [x]∧(tokT s L i T).i=j)∧(er≠0→(tokT s L i T).line=lineAt L i∧(tokT s L i T).col=colAt L i):=by
 by_cases hl:letterB (rAt L i)=true
 · have hw:Calls Tryz.prog 33 #[.string s,v,.int .i64 i] w (ROne w ⟨wordKind (txt s L i (wordN L i)),txt s L i (wordN L i),0,lineAt L i,colAt L i⟩ (i+wordN L i) (wordErr (txt s L i (wordN L i)))):=by
    cases hsm:smallB (rAt L i)
    · exact rone_word2 h hO hs hi hl hsm
    · exact rone_word1 h hO hs hi hl hsm
   refine⟨_,_,_,hw,fun T=>?_⟩
   unfold tokT
   rw[if_pos hl]
   exact⟨rfl,fun _=>⟨rfl,rfl⟩,fun _=>⟨rfl,rfl⟩⟩
 · have hl':letterB (rAt L i)=false:=by simpa using hl
   by_cases hn:isNum L i=true
   · have hw:Calls Tryz.prog 33 #[.string s,v,.int .i64 i] w (ROne w ⟨3,txt s L i (numN L i),(numVal s L i).1,lineAt L i,colAt L i⟩ (i+numN L i) (if(numVal s L i).2 then 0 else 2)):=by
      by_cases hd:digitB (rAt L i)=true
      · exact rone_num1 h hO hs hi hl' hd
      · have hd':digitB (rAt L i)=false:=by simpa using hd
        have hn2:=hn
        unfold isNum at hn2
        rw[hd'] at hn2
        simp at hn2
        exact rone_num2 h hO hs hi hl' hd' hn2.1 hn2.2
     refine⟨_,_,_,hw,fun T=>?_⟩
     unfold tokT
     rw[if_neg hl,if_pos hn]
     exact⟨rfl,fun _=>⟨rfl,rfl⟩,fun _=>⟨rfl,rfl⟩⟩
   · have hn':isNum L i=false:=by simpa using hn
     unfold isNum at hn'
     simp at hn'
     obtain⟨hd,hq⟩:=hn'
     by_cases hz:signN (rAt L i) (rAt L (i+1))=0
     · have hw:Calls Tryz.prog 33 #[.string s,v,.int .i64 i] w (ROne w ⟨4,⟨#[]⟩,0,lineAt L i,colAt L i⟩ i 1):=by
        by_cases h45:rAt L i=45
        · exact rone_sign45z h hO hs hi hl' hd h45 (hq h45) hz
        · exact rone_signz h hO hs hi hl' hd h45 hz
       refine⟨_,_,_,hw,fun T=>?_⟩
       unfold tokT
       rw[if_neg hl,if_neg hn]
       unfold signT
       rw[if_pos hz]
       exact⟨rfl,fun e=>by simp at e,fun _=>⟨rfl,rfl⟩⟩
     · have hw:Calls Tryz.prog 33 #[.string s,v,.int .i64 i] w (ROne w ⟨4,txt s L i (signN (rAt L i) (rAt L (i+1))),0,lineAt L i,colAt L i⟩ (i+signN (rAt L i) (rAt L (i+1))) 0):=by
        by_cases h45:rAt L i=45
        · exact rone_sign45 h hO hs hi hl' hd h45 (hq h45) hz
        · exact rone_sign h hO hs hi hl' hd h45 hz
       refine⟨_,_,_,hw,fun T=>?_⟩
       unfold tokT
       rw[if_neg hl,if_neg hn]
       unfold signT
       rw[if_neg hz]
       exact⟨rfl,fun _=>⟨rfl,rfl⟩,fun e=>absurd rfl e⟩
structure Outc where
 er:Int
 line:Int
 col:Int
 T:List Tk
def outc (r:Res):Outc:=if r.er≠0 then⟨r.er,r.line,r.col,[]⟩ else⟨0,0,0,r.T⟩
theorem oneT_far (s:ByteArray) (L:List Rn) (i:Nat) (T:List Tk) (hi:i < L.length) (he: (oneT s L i T).er=0):i < (oneT s L i T).i:=by
 unfold oneT at he ⊢
 by_cases hb:blankB (rAt L i)=true
 · rw[if_pos hb];show i < i+1;omega
 · rw[if_neg hb] at he ⊢
   by_cases h35:rAt L i=35
   · rw[if_pos h35] at he ⊢
     have h1:=rowE_yes restB (by decide) L i (by rw[h35];decide)
     have h2:=(rowE_ge restB L (i+1)).1
     unfold restT at he ⊢
     split
     · rename_i h;rw[if_pos h] at he;simp at he
     · show i < rowE restB L i;omega
   · rw[if_neg h35] at he ⊢
     unfold capT at he ⊢
     by_cases hr: (tokT s L i T).er≠0
     · rw[if_pos hr] at he;exact absurd he hr
     · rw[if_neg hr] at he ⊢
       by_cases hc:4096 < (tokT s L i T).T.length
       · rw[if_pos hc] at he;simp at he
       · rw[if_neg hc]
         exact(tokT_on s L i T hi (by omega)).1
theorem runT_fuel (s:ByteArray) (L:List Rn) (k d i:Nat) (T:List Tk) (h:L.length - i≤k):runT s L (k+d) i T=runT s L k i T:=by
 induction k generalizing i T with
 | zero=>
   cases d with
   | zero=>rfl
   | succ d=>rw[Nat.zero_add];show(if i < L.length then _ else _)=_;rw[if_neg (by omega)];rfl
 | succ k ih=>
   rw[show k+1+d= (k+d)+1 by omega,runT,runT]
   by_cases hi:i < L.length
   · rw[if_pos hi,if_pos hi]
     by_cases he: (oneT s L i T).er≠0
     · rw[if_pos he,if_pos he]
     · rw[if_neg he,if_neg he]
       have:=oneT_far s L i T hi (by omega)
       exact ih _ _ (by omega)
   · rw[if_neg hi,if_neg hi]
def runA (s:ByteArray) (L:List Rn) (i:Nat) (T:List Tk):Outc:=outc (runT s L (L.length - i) i T)
theorem runA_step {s:ByteArray} {L:List Rn} {i:Nat} (T:List Tk) (hi:i < L.length) (he: (oneT s L i T).er=0):runA s L i T=runA s L (oneT s L i T).i (oneT s L i T).T:=by
 unfold runA
 obtain⟨k,hk⟩:∃ k,L.length - i=k+1:=⟨L.length - i - 1,by omega⟩
 have hf:=oneT_far s L i T hi he
 rw[hk,runT,if_pos hi,if_neg (by omega)]
 obtain⟨d,hd⟩:∃ d,k= (L.length - (oneT s L i T).i)+d:=⟨k - (L.length - (oneT s L i T).i),by omega⟩
 rw[hd,runT_fuel _ _ _ _ _ _ (Nat.le_refl _)]
theorem runA_bad {s:ByteArray} {L:List Rn} {i:Nat} (T:List Tk) (hi:i < L.length) (he: (oneT s L i T).er≠0):runA s L i T= ⟨(oneT s L i T).er,(oneT s L i T).line,(oneT s L i T).col,[]⟩:=by
 unfold runA
 obtain⟨k,hk⟩:∃ k,L.length - i=k+1:=⟨L.length - i - 1,by omega⟩
 rw[hk,runT,if_pos hi,if_pos he]
 unfold outc;rw[if_pos he]
theorem runA_end {s:ByteArray} {L:List Rn} {i:Nat} (T:List Tk) (hi:¬i < L.length):runA s L i T= ⟨0,0,0,T⟩:=by
 unfold runA
 rw[show L.length - i=0 by omega];rfl
def runB (s:ByteArray) (L:List Rn) (i:Nat) (bh:Bool) (T:List Tk):Outc:=
 if bh then(if rowE restB L i < L.length∧rAt L (rowE restB L i)= -1 then⟨1,lineAt L (rowE restB L i),colAt L (rowE restB L i),[]⟩ else runA s L (rowE restB L i) T) else runA s L i T
theorem runB_false (s:ByteArray) (L:List Rn) (i:Nat) (T:List Tk):runB s L i false T=runA s L i T:=rfl
theorem runB_skip {s:ByteArray} {L:List Rn} {i:Nat} (T:List Tk) (h1:rAt L i≠10) (h2:rAt L i≠ -1):runB s L i true T=runB s L (i+1) true T:=by
 unfold runB
 rw[rowE_yes restB (by decide) L i (decide_eq_true ⟨h1,h2⟩)]
 rfl
theorem blank_step {s:ByteArray} {L:List Rn} {i:Nat} (T:List Tk) (hi:i < L.length) (hb:blankB (rAt L i)=true):runA s L i T=runA s L (i+1) T:=by
 have e:oneT s L i T= ⟨0,0,0,i+1,T⟩:=by unfold oneT;rw[if_pos hb]
 rw[runA_step T hi (by rw[e]),e]
theorem runB_line {s:ByteArray} {L:List Rn} {i:Nat} (T:List Tk) (hi:i < L.length) (h1:rAt L i=10):runB s L i true T=runB s L (i+1) false T:=by
 unfold runB
 rw[rowE_no restB L i (by rw[h1];rfl)]
 rw[if_pos rfl,if_neg (by rw[h1];omega),if_neg (by simp)]
 exact blank_step T hi (by rw[h1];decide)
theorem runB_bad {s:ByteArray} {L:List Rn} {i:Nat} (T:List Tk) (hi:i < L.length) (h1:rAt L i= -1):runB s L i true T= ⟨1,lineAt L i,colAt L i,[]⟩:=by
 unfold runB
 rw[rowE_no restB L i (by rw[h1];rfl),if_pos rfl,if_pos ⟨hi,h1⟩]
theorem runB_note {s:ByteArray} {L:List Rn} {i:Nat} (T:List Tk) (hi:i < L.length) (h1:rAt L i=35):runB s L i false T=runB s L (i+1) true T:=by
 have hr:=rowE_yes restB (by decide) L i (by rw[h1];decide)
 have e:oneT s L i T=restT L i T:=by unfold oneT;rw[if_neg (by rw[h1];decide),if_pos h1]
 unfold runB
 rw[if_neg (by simp),if_pos rfl]
 by_cases hq:rowE restB L i < L.length∧rAt L (rowE restB L i)= -1
 · have e2:oneT s L i T= ⟨1,lineAt L (rowE restB L i),colAt L (rowE restB L i),rowE restB L i,T⟩:=by rw[e];unfold restT;rw[if_pos hq]
   rw[runA_bad T hi (by rw[e2];exact fun h=>by simp at h),e2,←hr,if_pos hq]
 · have e2:oneT s L i T= ⟨0,0,0,rowE restB L i,T⟩:=by rw[e];unfold restT;rw[if_neg hq]
   rw[runA_step T hi (by rw[e2]),e2,←hr,if_neg hq]
theorem runB_end {s:ByteArray} {L:List Rn} {i:Nat} (bh:Bool) (T:List Tk) (hi:¬i < L.length):runB s L i bh T= ⟨0,0,0,T⟩:=by
 have hr:rowE restB L i=i:=by
  unfold rowE
  rw[show L.length - i=0 by omega];rfl
 unfold runB
 cases bh
 · rw[if_neg (by simp)];exact runA_end T hi
 · rw[if_pos rfl,hr,if_neg (by omega)];exact runA_end T hi
theorem runB_tok {s:ByteArray} {L:List Rn} {i j:Nat} {T:List Tk} {x:Tk} (hi:i < L.length) (hb:blankB (rAt L i)=false) (h35:rAt L i≠35) (he: (tokT s L i T).er=0) (hx: (tokT s L i T).T=T ++ [x]) (hj: (tokT s L i T).i=j) (hT:T.length < 4096) :
 runB s L i false T=runB s L j false (T ++ [x]):=by
 have e:oneT s L i T=tokT s L i T:=by
  unfold oneT;rw[if_neg (by rw[hb];simp),if_neg h35];unfold capT
  rw[if_neg (by omega),if_neg (by rw[hx,List.length_append,List.length_singleton];omega)]
 rw[runB_false,runB_false,runA_step T hi (by rw[e];exact he),e,hx,hj]
theorem runB_err {s:ByteArray} {L:List Rn} {i:Nat} {T:List Tk} (hi:i < L.length) (hb:blankB (rAt L i)=false) (h35:rAt L i≠35) (he: (tokT s L i T).er≠0) (hl: (tokT s L i T).line=lineAt L i) (hc: (tokT s L i T).col=colAt L i) :
 runB s L i false T= ⟨(tokT s L i T).er,lineAt L i,colAt L i,[]⟩:=by
 have e:oneT s L i T=tokT s L i T:=by
  unfold oneT;rw[if_neg (by rw[hb];simp),if_neg h35];unfold capT
  rw[if_pos he]
 rw[runB_false,runA_bad T hi (by rw[e];exact he),e,hl,hc]
theorem runB_many {s:ByteArray} {L:List Rn} {i:Nat} {T:List Tk} {x:Tk} (hi:i < L.length) (hb:blankB (rAt L i)=false) (h35:rAt L i≠35) (he: (tokT s L i T).er=0) (hx: (tokT s L i T).T=T ++ [x]) (hT:T.length=4096) :
 runB s L i false T= ⟨3,lineAt L i,colAt L i,[]⟩:=by
 have e:oneT s L i T= { tokT s L i T with er:=3,line:=lineAt L i,col:=colAt L i }:=by
  unfold oneT;rw[if_neg (by rw[hb];simp),if_neg h35];unfold capT
  rw[if_neg (by omega),if_pos (by rw[hx,List.length_append,List.length_singleton];omega)]
 rw[runB_false,runA_bad T hi (by rw[e];exact fun h=>by simp at h),e]
theorem tokRes_of {s:ByteArray} (hl: (allR s).length≤16384) :
 (tokRes s).er= (runB s (allR s) 0 false []).er∧((runB s (allR s) 0 false []).er≠0→(tokRes s).line= (runB s (allR s) 0 false []).line∧(tokRes s).col= (runB s (allR s) 0 false []).col∧(tokRes s).T= [])∧
   ((runB s (allR s) 0 false []).er=0→(tokRes s).T= (runB s (allR s) 0 false []).T ++ [endTk s]):=by
 unfold tokRes
 rw[if_neg (by omega),runB_false]
 unfold runA outc
 rw[Nat.sub_zero]
 by_cases h: (runT s (allR s) (allR s).length 0 []).er≠0
 · rw[if_pos h,if_pos h];exact⟨rfl,fun _=>⟨rfl,rfl,rfl⟩,fun e=>absurd e h⟩
 · rw[if_neg h,if_neg h];exact⟨rfl,fun e=>absurd rfl e,fun _=>rfl⟩
theorem RR.grown {w w':World} {v u:Value} {L:List Rn} {base n:Nat} {xs:List Value} (h:RR w v L) (ho:w.ownsRow base 48 5 u n xs) (hg:w.grownBy w' u.ownBlock):RR w' v L:=by
 obtain⟨B,h⟩:=h
 refine⟨B,h.1,?_⟩
 rcases h.2 with hn| ⟨g,cap,cur,hv,hBg,hgg,r⟩
 · exact .inl hn
 · exact .inr ⟨g,cap,cur,hv,hBg,(hg.block g (Array.getElem?_eq_some_iff.1 hgg).1 (Ne.symm (owns_ne_block ho hgg (by decide)))).trans hgg,r⟩
end Go.Proofs.YthlofmnmacpogaaGreatDoor
