/- A part of a proof of DeclReadsProof. -/
import Derived.Test.YthlofmnmacpogaaGreatDoorRt24
import Derived.Test.YthlofmnmacpogaaGreatDoorRt27
import Derived.Test.YthlofmnmacpogaaGreatDoorRt26
import Derived.Deep.DeepCutAuto
set_option maxRecDepth 100000
set_option maxHeartbeats 40000000
namespace Go.Proofs.YthlofmnmacpogaaGreatDoor
open Go.RowKit
theorem idxN_range (s:ByteArray):∀ (L:List ByteArray) (k m:Nat),idxN s L k=some m→k≤m∧m < k+L.length
 | [],k,m,h=>by simp[idxN] at h
 | x :: r,k,m,h=>by
   rw[idxN] at h
   split at h
   · simp only[Option.some.injEq] at h;subst h;simp
   · have:=idxN_range s r (k+1) m h
     simp only[List.length_cons];omega
theorem idxP_range (L:List ByteArray) (s:ByteArray):idxP L s= -1∨(0≤idxP L s∧idxP L s < L.length):=by
 unfold idxP
 cases h:idxN s L 0 with
 | none=>exact .inl rfl
 | some k=>have:=idxN_range s L 0 k h;exact .inr ⟨by simp,by simp;omega⟩
theorem true_open (s:ByteArray) (h:0≤idxP trueL s):idxP openL s= -1:=by
 by_cases h0:s=wTrue
 · subst h0;decide
 by_cases h1:s=wFalse
 · subst h1;decide
 by_cases h2:s=wComplete
 · subst h2;decide
 by_cases h3:s=wStuck
 · subst h3;decide
 have e1:idxP trueL s= -1:=by simp[idxP,trueL,idxN,Ne.symm h0,Ne.symm h1,Ne.symm h2,Ne.symm h3]
 omega
theorem ratom_any {w:World} {B:Nat} {lv:Value} {T:List Tk} (h:TkIn w B lv T) (hB:B≤w.heap.size) (i:Int) (hlo:-9223372036854775808≤i) (hhi:i≤1000000) (prop:Bool) :
 Calls Tryz.prog 144 #[lv,.int .i64 i,.bool prop] w (RPost w (atomP T prop i)):=by
 rw[←ratom_is]
 unfold ratomP
 have hk:=idxP_range trueL (tkAt T i).text
 have hj:=idxP_range openL (tkAt T i).text
 have hto:=true_open (tkAt T i).text
 obtain⟨k,ek⟩:∃ k,idxP trueL (tkAt T i).text=k:=⟨_,rfl⟩
 obtain⟨j,ej⟩:∃ j,idxP openL (tkAt T i).text=j:=⟨_,rfl⟩
 rw[ek] at hk hto ⊢;rw[ej] at hj hto ⊢
 simp only[show((trueL.length:Nat):Int)=4 from rfl] at hk
 simp only[show((openL.length:Nat):Int)=4 from rfl] at hj
 by_cases hc:0≤k∧(k < 2∨prop=true)
 · rw[if_pos hc]
   refine ratom_true h hB i hlo hhi prop k ek ?_
   cases prop
   · have:k < 2:=by rcases hc.2 with h|h;exact h;exact absurd h (by simp)
     omega
   · simp only[and_true];omega
 rw[if_neg hc]
 by_cases hk0:0≤k
 · have hp:prop=false:=by cases prop;rfl;exact absurd ⟨hk0,.inr rfl⟩ hc
   have hk2:k=2∨k=3:=by
    have:¬k < 2:=fun h=>hc ⟨hk0,.inl h⟩
    omega
   have hj0:=hto hk0
   rw[if_pos (.inl (by omega))]
   rcases hk2 with rfl|rfl
   · exact ratom_no2 h hB i prop ek (ej.trans hj0) hp
   · exact ratom_no3 h hB i prop ek (ej.trans hj0) hp
 have hk1:k= -1:=by omega
 subst hk1
 have hj5:j= -1∨j=0∨j=1∨j=2∨j=3:=by omega
 rcases hj5 with rfl|rfl|rfl|rfl|rfl
 · exact ratom_no1 h hB i prop ek ej
 · exact ratom_open h hB i hlo hhi prop ek ej
 · exact ratom_done h hB i hlo hhi prop ek ej
 · cases prop
   · exact ratom_no4 h hB i false ek ej rfl
   · exact ratom_can h hB i hlo hhi true ek ej rfl
 · cases prop
   · exact ratom_no5 h hB i false ek ej rfl
   · exact ratom_did h hB i hlo hhi true ek ej rfl
theorem rsign_zero:RSignOK 0:=by
 intro w B lv T i prop d h hB hlo hhi hd
 have hdd:24 < d:=by omega
 have HTK:Hid (∀ W,Below w.heap.size w W→TkIn W B lv T):=fun W hW=>h.below (hW.mono hB)
 have HB0:=Lh ((Below.refl w.heap.size w).alloc (Nat.le_refl _) oB6)
 have HQ:=Lh (show PrB (w.alloc oB6) w.heap.size (.slice none 0 0) 0 0 0 0 from heap_alloc_new w _)
 show Calls _ _ _ _ (RPost w (badP T i 5))
 clear h hd
 go_enter Tryz.func124,Tryz.ntmps124
 go_wp2_with fail
 refine(rcbad_any (HTK.out _ HB0.out) (Nat.le_trans hB HB0.out.size) i 5).mono ?_
 rintro e w9 ⟨rfl,hb3⟩
 obtain⟨tl,htl⟩:∃ l,(tkAt T i).line=l:=⟨_,rfl⟩
 obtain⟨tc,htc⟩:∃ l,(tkAt T i).col=l:=⟨_,rfl⟩
 rw[htl,htc]
 have HP:Hid (badP T i 5=.bad 5 tl tc):=by unfold Hid;unfold badP;rw[htl,htc]
 have HBx:=Lh (HB0.out.trans (hb3.mono HB0.out.size))
 have hq3:=HQ.out.below hb3
 obtain⟨c0,c1,c2,c3,c4⟩:=hq3.facts
 obtain⟨z0,z1,z2,z3,z4⟩:=hq3.free
 have hlt3:=hq3.lt
 have HE:=Lh (hq3.stored (.slice none 0 0) 0 5 tl tc).facts
 clear hb3 hq3 htl htc
 go_wp2
 obtain⟨e0,e1,e2,e3,e4⟩:=HE.out
 refine bodyPost_ret (v:=.agg #[.slice none 0 0,.int .i64 0,.int .i64 5,.int .i64 tl,.int .i64 tc]) (by simp[results,Tryz.results124,go_sem,e0,e1,e2,e3,e4]) rfl ?_
 exact RPost.fault HP.out 0 (by decide) rfl (below_tok HBx.out (Nat.le_refl _) _ _ _ _ _)
theorem rsign_open (n:Nat) (hn:n≤24) {w:World} {B:Nat} {lv:Value} {T:List Tk} (h:TkIn w B lv T) (hB:B≤w.heap.size) (i:Int) (hlo:-9223372036854775808≤i) (hhi:i≤1000000) (d:Int) (hd:d=24 - (n:Int)) (prop:Bool) (hf:RFormOK n) (ho:isTk T i 4 sOpen=true) :
 Calls Tryz.prog 124 #[lv,.int .i64 i,.int .i64 d,.bool prop] w (RPost w (((bothP T prop n).2 (i+1)).also fun o a=>needP T a 4 sClose fun b=>.ok o b)):=by
 have hTl:=h.len
 have HTK:Hid (∀ W,Below w.heap.size w W→TkIn W B lv T):=fun W hW=>h.below (hW.mono hB)
 have HB0:=Lh ((Below.refl w.heap.size w).alloc (Nat.le_refl _) oB6)
 have HQ:=Lh (show PrB (w.alloc oB6) w.heap.size (.slice none 0 0) 0 0 0 0 from heap_alloc_new w _)
 have hdd:d≤24:=by omega
 have hd0:0≤d:=by omega
 have HDN:=Lh (show d+1=25 - (n:Int) by omega)
 have HFO:=Lh hf
 obtain⟨form,hform⟩:∃ f,(bothP T prop n).2=f:=⟨_,rfl⟩
 have HFM:=Lh hform
 have HG:=both_good T prop n |>.2
 have HFL:=both_full T prop n |>.2
 rw[hform] at HG HFL ⊢
 replace HG:=Lh HG;replace HFL:=Lh HFL
 clear hform
 have Hqo:Hid (isTk T i 4 sOpen=true):=ho
 have hgi:=isTk_in ho (by decide)
 clear h hf ho hd
 go_enter Tryz.func124,Tryz.ntmps124
 go_wp2_with fail
 refine(rcis_any (HTK.out _ HB0.out) i 4 ⟨#[40]⟩).mono ?_
 rw[show isTk T i 4 ⟨#[40]⟩ = true from Hqo.out]
 rintro e w1 ⟨rfl,hb⟩
 have HB1:=Lh (HB0.out.trans (hb.mono HB0.out.size))
 have HQ1:=Lh (HQ.out.below hb)
 clear hb
 go_wp2_with fail
 cases hp1:form (i+1) with
 | bad er l c=>
   have HE1:=Lh hp1
   have HP:Hid (((form (i+1)).also fun o a=>needP T a 4 sClose fun b=>.ok o b:PR)=.bad er l c):=also_of_bad hp1
   clear hp1
   refine(HFO.out _ B lv T (i+1) prop (d+1) (HTK.out _ HB1.out) (Nat.le_trans hB HB1.out.size) (by omega) (by omega) HDN.out).mono ?_
   rw[HFM.out,HE1.out]
   rintro e w2 ⟨av,h0,rfl,hb⟩
   have H0:=Lh h0
   have ne: (er == 0)=false:=beq_eq_false_iff_ne.2 h0
   have HBx:=Lh ((HB1.out.trans (hb.mono HB1.out.size)).alloc (Nat.le_trans HB1.out.size hb.size) (.cells #[.slice none 0 0,.int .i64 av,.int .i64 er,.int .i64 l,.int .i64 c] 117))
   have hq3:=(HQ1.out.below hb).alloc (.cells #[.slice none 0 0,.int .i64 av,.int .i64 er,.int .i64 l,.int .i64 c] 117)
   have hltb:=(HQ1.out.below hb).lt
   have ha3:=(show PrB (w2.alloc (.cells #[.slice none 0 0,.int .i64 av,.int .i64 er,.int .i64 l,.int .i64 c] 117)) w2.heap.size (.slice none 0 0) av er l c from heap_alloc_new w2 _)
   have d2:=ha3.facts.2.2.1
   clear hb h0
   go_upto_if 39 with fail
   obtain⟨WW,hWW⟩:∃ W,w2.alloc (.cells #[.slice none 0 0,.int .i64 av,.int .i64 er,.int .i64 l,.int .i64 c] 117)=W:=⟨_,rfl⟩
   rw[hWW] at hq3 ha3 HBx ⊢
   clear hWW d2
   obtain⟨d0,d1,d2,d3,d4⟩:=ha3.facts
   obtain⟨y0,y1,y2,y3,y4⟩:=ha3.free
   have hla:=ha3.lt
   obtain⟨av2,hav2⟩:∃ a,IntKind.i64.wrap (av+1)=a:=⟨_,rfl⟩
   have ha4:=ha3.put1 av2
   have hq4:=hq3.over (k:=w2.heap.size) (j:=1) (by omega) (.int .i64 av2)
   obtain⟨m0,m1,m2,m3,m4⟩:=ha4.facts
   obtain⟨c0,c1,c2,c3,c4⟩:=hq4.facts
   obtain⟨z0,z1,z2,z3,z4⟩:=hq4.free
   have hlt4:=hq4.lt
   have HE:=Lh (hq4.stored (.slice none 0 0) av2 er l c).facts
   have HBy:=Lh (HBx.out.setCell (p:=⟨w2.heap.size,1,none⟩) (show w.heap.size≤w2.heap.size by omega) (.int .i64 av2))
   clear hq3 ha3 hq4 ha4
   go_wp2
   obtain⟨e0,e1,e2,e3,e4⟩:=HE.out
   refine bodyPost_ret (v:=.agg #[.slice none 0 0,.int .i64 av2,.int .i64 er,.int .i64 l,.int .i64 c]) (by simp[results,Tryz.results124,go_sem,e0,e1,e2,e3,e4]) rfl ?_
   exact RPost.fault HP.out av2 H0.out rfl (below_tok HBy.out (Nat.le_refl _) _ _ _ _ _)
 | ok o1 a1=>
   have hg1:=HG.out _ _ _ hp1
   have HE1:=Lh hp1
   have HU:Hid (((form (i+1)).also fun o a=>needP T a 4 sClose fun b=>.ok o b:PR)=needP T a1 4 sClose fun b=>.ok o1 b):=also_of_ok hp1
   clear hp1
   refine(HFO.out _ B lv T (i+1) prop (d+1) (HTK.out _ HB1.out) (Nat.le_trans hB HB1.out.size) (by omega) (by omega) HDN.out).mono ?_
   rw[HFM.out,HE1.out]
   rintro e w2 ⟨g1,cap1,rfl,hrow,hb⟩
   have HB2:=Lh ((HB1.out.trans (hb.mono HB1.out.size)).alloc (Nat.le_trans HB1.out.size hb.size) (.cells #[.slice (some ⟨g1,0,none⟩) o1.length cap1,.int .i64 a1,.int .i64 0,.int .i64 0,.int .i64 0] 117))
   have HQ2:=Lh ((HQ1.out.below hb).alloc (.cells #[.slice (some ⟨g1,0,none⟩) o1.length cap1,.int .i64 a1,.int .i64 0,.int .i64 0,.int .i64 0] 117))
   have HA2:=Lh (show PrB (w2.alloc (.cells #[.slice (some ⟨g1,0,none⟩) o1.length cap1,.int .i64 a1,.int .i64 0,.int .i64 0,.int .i64 0] 117)) w2.heap.size (.slice (some ⟨g1,0,none⟩) o1.length cap1) a1 0 0 0 from heap_alloc_new w2 _)
   have HR1:=Lh (owns_mono (owns_alloc hrow (.cells #[.slice (some ⟨g1,0,none⟩) o1.length cap1,.int .i64 a1,.int .i64 0,.int .i64 0,.int .i64 0] 117)) HB1.out.size)
   have hlt2:=(HQ1.out.below hb).lt
   obtain⟨d0,d1,d2,d3,d4⟩:=HA2.out.facts
   clear hb hrow
   obtain⟨qc,hqc⟩:∃ q,isTk T a1 4 sClose=q:=⟨_,rfl⟩
   have Hqc:=Lh hqc
   clear hqc
   go_wp2_with fail
   refine(rcis_any (HTK.out _ HB2.out) a1 4 ⟨#[41]⟩).mono ?_
   rw[show isTk T a1 4 ⟨#[41]⟩ = qc from Hqc.out]
   rintro e w3 ⟨rfl,hb⟩
   cases qc
   · have HB3:=Lh (HB2.out.trans (hb.mono HB2.out.size))
     have HQ3:=Lh (HQ2.out.below hb)
     obtain⟨g0,g1',g2',g3,g4⟩:=(HA2.out.below hb).facts
     clear hb d0 d1 d2 d3 d4
     go_wp2_with fail
     refine(rcbad_any (HTK.out _ HB3.out) (Nat.le_trans hB HB3.out.size) a1 4).mono ?_
     rintro e w9 ⟨rfl,hb3⟩
     obtain⟨tl,htl⟩:∃ l,(tkAt T a1).line=l:=⟨_,rfl⟩
     obtain⟨tc,htc⟩:∃ l,(tkAt T a1).col=l:=⟨_,rfl⟩
     rw[htl,htc]
     have HP:Hid ((((form (i+1)).also fun o a=>needP T a 4 sClose fun b=>.ok o b):PR)=.bad 4 tl tc):=by unfold Hid;rw[HU.out,needP_bad Hqc.out];rw[htl,htc]
     have HBx:=Lh (HB3.out.trans (hb3.mono HB3.out.size))
     have hq3:=HQ3.out.below hb3
     obtain⟨c0,c1,c2,c3,c4⟩:=hq3.facts
     obtain⟨z0,z1,z2,z3,z4⟩:=hq3.free
     have hlt3:=hq3.lt
     have HE:=Lh (hq3.stored (.slice none 0 0) 0 4 tl tc).facts
     clear hb3 hq3 htl htc
     go_wp2
     obtain⟨e0,e1,e2,e3,e4⟩:=HE.out
     refine bodyPost_ret (v:=.agg #[.slice none 0 0,.int .i64 0,.int .i64 4,.int .i64 tl,.int .i64 tc]) (by simp[results,Tryz.results124,go_sem,e0,e1,e2,e3,e4]) rfl ?_
     exact RPost.fault HP.out 0 (by decide) rfl (below_tok HBx.out (Nat.le_refl _) _ _ _ _ _)
   have hwa:IntKind.i64.wrap (a1+1)=a1+1:=IntWalk.i64_in _ ⟨by omega,by omega⟩
   have HP:Hid ((((form (i+1)).also fun o a=>needP T a 4 sClose fun b=>.ok o b):PR)=.ok o1 (a1+1)):=by unfold Hid;rw[HU.out,needP_ok Hqc.out]
   have ha3:=HA2.out.below hb
   have hq3:=HQ2.out.below hb
   obtain⟨g0,g1',g2',g3,g4⟩:=ha3.facts
   obtain⟨y0,y1,y2,y3,y4⟩:=ha3.free
   have hla:=ha3.lt
   have ha4:=ha3.put1 (a1+1)
   have hq4:=hq3.over (k:=w2.heap.size) (j:=1) (by omega) (.int .i64 (a1+1))
   have hr4:=ha3.row1 (owns_below HR1.out hb) (by decide) (a1+1)
   obtain⟨m0,m1,m2,m3,m4⟩:=ha4.facts
   obtain⟨c0,c1,c2,c3,c4⟩:=hq4.facts
   obtain⟨z0,z1,z2,z3,z4⟩:=hq4.free
   have hlt4:=hq4.lt
   have HE:=Lh (hq4.stored (.slice (some ⟨g1,0,none⟩) o1.length cap1) (a1+1) 0 0 0).facts
   have HOWN:=Lh (hq4.row hr4 (by decide) (.slice (some ⟨g1,0,none⟩) o1.length cap1) (a1+1) 0 0 0)
   have HBy:=Lh ((HB2.out.trans (hb.mono HB2.out.size)).setCell (p:=⟨w2.heap.size,1,none⟩) (show w.heap.size≤w2.heap.size by omega) (.int .i64 (a1+1)))
   clear hb hq3 ha3 hq4 ha4 hr4 d0 d1 d2 d3 d4
   go_wp2
   obtain⟨e0,e1,e2,e3,e4⟩:=HE.out
   refine bodyPost_ret (v:=.agg #[.slice (some ⟨g1,0,none⟩) o1.length cap1,.int .i64 (a1+1),.int .i64 0,.int .i64 0,.int .i64 0]) (by simp[results,Tryz.results124,go_sem,e0,e1,e2,e3,e4]) rfl ?_
   exact RPost.good HP.out rfl rfl HOWN.out (below_tok HBy.out (Nat.le_refl _) _ _ _ _ _)
theorem rsign_comp (n:Nat) (hn:n≤24) {w:World} {B:Nat} {lv:Value} {T:List Tk} (h:TkIn w B lv T) (hB:B≤w.heap.size) (i:Int) (hlo:-9223372036854775808≤i) (hhi:i≤1000000) (d:Int) (hd:d=24 - (n:Int)) (prop:Bool) (ho:isTk T i 4 sOpen=false) (hkind: (tkAt T i).kind≠2) :
 Calls Tryz.prog 124 #[lv,.int .i64 i,.int .i64 d,.bool prop] w (RPost w (compP T i)):=by
 have hTl:=h.len
 have HTK:Hid (∀ W,Below w.heap.size w W→TkIn W B lv T):=fun W hW=>h.below (hW.mono hB)
 have HB0:=Lh ((Below.refl w.heap.size w).alloc (Nat.le_refl _) oB6)
 have HQ:=Lh (show PrB (w.alloc oB6) w.heap.size (.slice none 0 0) 0 0 0 0 from heap_alloc_new w _)
 have hdd:d≤24:=by omega
 have hd0:0≤d:=by omega
 have HDN:=Lh (show d+1=25 - (n:Int) by omega)
 have Hqo:Hid (isTk T i 4 sOpen=false):=ho
 obtain⟨x,hx⟩:∃ x,tkAt T i=x:=⟨_,rfl⟩
 rw[hx] at hkind
 have HX:=Lh hx
 have yd: (x.kind == 2)=false:=beq_eq_false_iff_ne.2 hkind
 have yd2: (x.kind !=2)=true:=by simp[bne,yd]
 clear h ho hd hkind hx
 go_enter Tryz.func124,Tryz.ntmps124
 go_wp2_with fail
 refine(rcis_any (HTK.out _ HB0.out) i 4 ⟨#[40]⟩).mono ?_
 rw[show isTk T i 4 ⟨#[40]⟩ = false from Hqo.out]
 rintro e w1 ⟨rfl,hb⟩
 have HB1:=Lh (HB0.out.trans (hb.mono HB0.out.size))
 have HQ1:=Lh (HQ.out.below hb)
 clear hb
 go_wp2_with fail
 refine(rctok_any (HTK.out _ HB1.out) i).mono ?_
 rintro e w2 ⟨rfl,hb⟩
 rw[HX.out]
 unfold tokV
 have HB2:=Lh ((HB1.out.trans (hb.mono HB1.out.size)).alloc (Nat.le_trans HB1.out.size hb.size) (tO x))
 have HQ2:=Lh ((HQ1.out.below hb).alloc (tO x))
 have HT2:=Lh (show TkB (w2.alloc (tO x)) w2.heap.size x from heap_alloc_new w2 _)
 have hlt2:=(HQ1.out.below hb).lt
 obtain⟨d0,d1,d2,d3,d4⟩:=HT2.out.facts
 clear hb
 cases hp9:compP T i with
 | bad er l c=>
   have HP9:=Lh hp9
   clear hp9
   go_wp2_with fail
   refine(rcompare_any (HTK.out _ HB2.out) (Nat.le_trans hB HB2.out.size) i hlo hhi).mono ?_
   rw[HP9.out]
   rintro e w9 ⟨av,h0,rfl,hb3⟩
   have H0:=Lh h0
   have HP:Hid (compP T i=.bad er l c):=by unfold Hid;skip;exact HP9.out
   have HBx:=Lh (HB2.out.trans (hb3.mono HB2.out.size))
   have hq3:=HQ2.out.below hb3
   obtain⟨c0,c1,c2,c3,c4⟩:=hq3.facts
   obtain⟨z0,z1,z2,z3,z4⟩:=hq3.free
   have hlt3:=hq3.lt
   have HE:=Lh (hq3.stored (.slice none 0 0) av er l c).facts
   clear hb3 hq3 h0
   go_wp2
   obtain⟨e0,e1,e2,e3,e4⟩:=HE.out
   refine bodyPost_ret (v:=.agg #[.slice none 0 0,.int .i64 av,.int .i64 er,.int .i64 l,.int .i64 c]) (by simp[results,Tryz.results124,go_sem,e0,e1,e2,e3,e4]) rfl ?_
   exact RPost.fault HP.out av H0.out rfl (below_tok HBx.out (Nat.le_refl _) _ _ _ _ _)
 | ok o a=>
   have HP9:=Lh hp9
   clear hp9
   go_wp2_with fail
   refine(rcompare_any (HTK.out _ HB2.out) (Nat.le_trans hB HB2.out.size) i hlo hhi).mono ?_
   rw[HP9.out]
   rintro e w9 ⟨g9,cap9,rfl,hown9,hb3⟩
   have HP:Hid (compP T i=.ok o a):=by unfold Hid;skip;exact HP9.out
   have hs3:=Nat.le_trans HB2.out.size (Nat.le_refl _)
   have HBx:=Lh (HB2.out.trans (hb3.mono HB2.out.size))
   have hq3:=HQ2.out.below hb3
   obtain⟨c0,c1,c2,c3,c4⟩:=hq3.facts
   obtain⟨z0,z1,z2,z3,z4⟩:=hq3.free
   have hlt3:=hq3.lt
   have HE:=Lh (hq3.stored (.slice (some ⟨g9,0,none⟩) o.length cap9) a 0 0 0).facts
   have HOWN:=Lh (hq3.row (owns_mono hown9 hs3) (by decide) (.slice (some ⟨g9,0,none⟩) o.length cap9) a 0 0 0)
   clear hb3 hq3 hown9 hs3
   go_wp2
   obtain⟨e0,e1,e2,e3,e4⟩:=HE.out
   refine bodyPost_ret (v:=.agg #[.slice (some ⟨g9,0,none⟩) o.length cap9,.int .i64 a,.int .i64 0,.int .i64 0,.int .i64 0]) (by simp[results,Tryz.results124,go_sem,e0,e1,e2,e3,e4]) rfl ?_
   exact RPost.good HP.out rfl rfl HOWN.out (below_tok HBx.out (Nat.le_refl _) _ _ _ _ _)
theorem rsign_atom (n:Nat) (hn:n≤24) {w:World} {B:Nat} {lv:Value} {T:List Tk} (h:TkIn w B lv T) (hB:B≤w.heap.size) (i:Int) (hlo:-9223372036854775808≤i) (hhi:i≤1000000) (d:Int) (hd:d=24 - (n:Int)) (prop:Bool) (ho:isTk T i 4 sOpen=false) (hkind: (tkAt T i).kind=2) (hk:idxP notL (tkAt T i).text= -1) :
 Calls Tryz.prog 124 #[lv,.int .i64 i,.int .i64 d,.bool prop] w (RPost w (atomP T prop i)):=by
 have hTl:=h.len
 have HTK:Hid (∀ W,Below w.heap.size w W→TkIn W B lv T):=fun W hW=>h.below (hW.mono hB)
 have HB0:=Lh ((Below.refl w.heap.size w).alloc (Nat.le_refl _) oB6)
 have HQ:=Lh (show PrB (w.alloc oB6) w.heap.size (.slice none 0 0) 0 0 0 0 from heap_alloc_new w _)
 have hdd:d≤24:=by omega
 have hd0:0≤d:=by omega
 have HDN:=Lh (show d+1=25 - (n:Int) by omega)
 have Hqo:Hid (isTk T i 4 sOpen=false):=ho
 obtain⟨x,hx⟩:∃ x,tkAt T i=x:=⟨_,rfl⟩
 rw[hx] at hkind
 have HX:=Lh hx
 have yd: (x.kind == 2)=true:=by rw[beq_iff_eq];exact hkind
 have yd2: (x.kind !=2)=false:=by simp[bne,yd]
 rw[hx] at hk
 have HK:=Lh hk
 clear h ho hd hkind hx hk
 go_enter Tryz.func124,Tryz.ntmps124
 go_wp2_with fail
 refine(rcis_any (HTK.out _ HB0.out) i 4 ⟨#[40]⟩).mono ?_
 rw[show isTk T i 4 ⟨#[40]⟩ = false from Hqo.out]
 rintro e w1 ⟨rfl,hb⟩
 have HB1:=Lh (HB0.out.trans (hb.mono HB0.out.size))
 have HQ1:=Lh (HQ.out.below hb)
 clear hb
 go_wp2_with fail
 refine(rctok_any (HTK.out _ HB1.out) i).mono ?_
 rintro e w2 ⟨rfl,hb⟩
 rw[HX.out]
 unfold tokV
 have HB2:=Lh ((HB1.out.trans (hb.mono HB1.out.size)).alloc (Nat.le_trans HB1.out.size hb.size) (tO x))
 have HQ2:=Lh ((HQ1.out.below hb).alloc (tO x))
 have HT2:=Lh (show TkB (w2.alloc (tO x)) w2.heap.size x from heap_alloc_new w2 _)
 have hlt2:=(HQ1.out.below hb).lt
 obtain⟨d0,d1,d2,d3,d4⟩:=HT2.out.facts
 clear hb
 have HB3:=Lh (HB2.out.alloc HB2.out.size oB1)
 have HQ3:=Lh (HQ2.out.alloc oB1)
 have HT3:=Lh (HT2.out.alloc oB1)
 have hn3: (w2.alloc (tO x) |>.alloc oB1).heap[w2.heap.size+1]?=some oB10:=heap_at_size _ _ _ (by simp)
 have HN3:=Lh (show Reads (w2.alloc (tO x) |>.alloc oB1) (.slice (some ⟨w2.heap.size+1,0,none⟩) 9 9) (strs notL) from blk_reads hn3 9 (by decide))
 clear hn3
 obtain⟨f0,f1,f2,f3,f4⟩:=HT3.out.facts
 go_wp2_with fail
 refine(rcindex_any _ notL x.text _ HN3.out (by decide)).mono ?_
 rintro e w' ⟨rfl,rfl⟩
 rw[HK.out]
 cases hp9:atomP T prop i with
 | bad er l c=>
   have HP9:=Lh hp9
   clear hp9
   go_wp2_with fail
   refine(ratom_any (HTK.out _ HB3.out) (Nat.le_trans hB HB3.out.size) i hlo hhi prop).mono ?_
   rw[HP9.out]
   rintro e w9 ⟨av,h0,rfl,hb3⟩
   have H0:=Lh h0
   have HP:Hid (atomP T prop i=.bad er l c):=by unfold Hid;skip;exact HP9.out
   have HBx:=Lh (HB3.out.trans (hb3.mono HB3.out.size))
   have hq3:=HQ3.out.below hb3
   obtain⟨c0,c1,c2,c3,c4⟩:=hq3.facts
   obtain⟨z0,z1,z2,z3,z4⟩:=hq3.free
   have hlt3:=hq3.lt
   have HE:=Lh (hq3.stored (.slice none 0 0) av er l c).facts
   clear hb3 hq3 h0
   go_wp2
   obtain⟨e0,e1,e2,e3,e4⟩:=HE.out
   refine bodyPost_ret (v:=.agg #[.slice none 0 0,.int .i64 av,.int .i64 er,.int .i64 l,.int .i64 c]) (by simp[results,Tryz.results124,go_sem,e0,e1,e2,e3,e4]) rfl ?_
   exact RPost.fault HP.out av H0.out rfl (below_tok HBx.out (Nat.le_refl _) _ _ _ _ _)
 | ok o a=>
   have HP9:=Lh hp9
   clear hp9
   go_wp2_with fail
   refine(ratom_any (HTK.out _ HB3.out) (Nat.le_trans hB HB3.out.size) i hlo hhi prop).mono ?_
   rw[HP9.out]
   rintro e w9 ⟨g9,cap9,rfl,hown9,hb3⟩
   have HP:Hid (atomP T prop i=.ok o a):=by unfold Hid;skip;exact HP9.out
   have hs3:=Nat.le_trans HB3.out.size (Nat.le_refl _)
   have HBx:=Lh (HB3.out.trans (hb3.mono HB3.out.size))
   have hq3:=HQ3.out.below hb3
   obtain⟨c0,c1,c2,c3,c4⟩:=hq3.facts
   obtain⟨z0,z1,z2,z3,z4⟩:=hq3.free
   have hlt3:=hq3.lt
   have HE:=Lh (hq3.stored (.slice (some ⟨g9,0,none⟩) o.length cap9) a 0 0 0).facts
   have HOWN:=Lh (hq3.row (owns_mono hown9 hs3) (by decide) (.slice (some ⟨g9,0,none⟩) o.length cap9) a 0 0 0)
   clear hb3 hq3 hown9 hs3
   go_wp2
   obtain⟨e0,e1,e2,e3,e4⟩:=HE.out
   refine bodyPost_ret (v:=.agg #[.slice (some ⟨g9,0,none⟩) o.length cap9,.int .i64 a,.int .i64 0,.int .i64 0,.int .i64 0]) (by simp[results,Tryz.results124,go_sem,e0,e1,e2,e3,e4]) rfl ?_
   exact RPost.good HP.out rfl rfl HOWN.out (below_tok HBx.out (Nat.le_refl _) _ _ _ _ _)
theorem rsign_not (n:Nat) (hn:n≤24) {w:World} {B:Nat} {lv:Value} {T:List Tk} (h:TkIn w B lv T) (hB:B≤w.heap.size) (i:Int) (d:Int) (hd:d=24 - (n:Int)) (ho:isTk T i 4 sOpen=false) (hkind: (tkAt T i).kind=2) (k:Int) (hk:idxP notL (tkAt T i).text=k) (hk0:0 < k) :
 Calls Tryz.prog 124 #[lv,.int .i64 i,.int .i64 d,.bool false] w (RPost w (badP T i 4)):=by
 have hTl:=h.len
 have HTK:Hid (∀ W,Below w.heap.size w W→TkIn W B lv T):=fun W hW=>h.below (hW.mono hB)
 have HB0:=Lh ((Below.refl w.heap.size w).alloc (Nat.le_refl _) oB6)
 have HQ:=Lh (show PrB (w.alloc oB6) w.heap.size (.slice none 0 0) 0 0 0 0 from heap_alloc_new w _)
 have hdd:d≤24:=by omega
 have hd0:0≤d:=by omega
 have HDN:=Lh (show d+1=25 - (n:Int) by omega)
 have Hqo:Hid (isTk T i 4 sOpen=false):=ho
 obtain⟨x,hx⟩:∃ x,tkAt T i=x:=⟨_,rfl⟩
 rw[hx] at hkind
 have HX:=Lh hx
 have yd: (x.kind == 2)=true:=by rw[beq_iff_eq];exact hkind
 have yd2: (x.kind !=2)=false:=by simp[bne,yd]
 rw[hx] at hk
 have HK:=Lh hk
 clear h ho hd hkind hx hk
 have kd1:decide (k < 0)=false:=decide_eq_false (by omega)
 have kd2:decide (0 < k)=true:=decide_eq_true hk0
 have kn:¬k < 0:=by omega
 go_enter Tryz.func124,Tryz.ntmps124
 go_wp2_with fail
 refine(rcis_any (HTK.out _ HB0.out) i 4 ⟨#[40]⟩).mono ?_
 rw[show isTk T i 4 ⟨#[40]⟩ = false from Hqo.out]
 rintro e w1 ⟨rfl,hb⟩
 have HB1:=Lh (HB0.out.trans (hb.mono HB0.out.size))
 have HQ1:=Lh (HQ.out.below hb)
 clear hb
 go_wp2_with fail
 refine(rctok_any (HTK.out _ HB1.out) i).mono ?_
 rintro e w2 ⟨rfl,hb⟩
 rw[HX.out]
 unfold tokV
 have HB2:=Lh ((HB1.out.trans (hb.mono HB1.out.size)).alloc (Nat.le_trans HB1.out.size hb.size) (tO x))
 have HQ2:=Lh ((HQ1.out.below hb).alloc (tO x))
 have HT2:=Lh (show TkB (w2.alloc (tO x)) w2.heap.size x from heap_alloc_new w2 _)
 have hlt2:=(HQ1.out.below hb).lt
 obtain⟨d0,d1,d2,d3,d4⟩:=HT2.out.facts
 clear hb
 have HB3:=Lh (HB2.out.alloc HB2.out.size oB1)
 have HQ3:=Lh (HQ2.out.alloc oB1)
 have HT3:=Lh (HT2.out.alloc oB1)
 have hn3: (w2.alloc (tO x) |>.alloc oB1).heap[w2.heap.size+1]?=some oB10:=heap_at_size _ _ _ (by simp)
 have HN3:=Lh (show Reads (w2.alloc (tO x) |>.alloc oB1) (.slice (some ⟨w2.heap.size+1,0,none⟩) 9 9) (strs notL) from blk_reads hn3 9 (by decide))
 clear hn3
 obtain⟨f0,f1,f2,f3,f4⟩:=HT3.out.facts
 go_wp2_with fail
 refine(rcindex_any _ notL x.text _ HN3.out (by decide)).mono ?_
 rintro e w' ⟨rfl,rfl⟩
 rw[HK.out]
 go_wp2_with fail
 refine(rcbad_any (HTK.out _ HB3.out) (Nat.le_trans hB HB3.out.size) i 4).mono ?_
 rintro e w9 ⟨rfl,hb3⟩
 obtain⟨tl,htl⟩:∃ l,(tkAt T i).line=l:=⟨_,rfl⟩
 obtain⟨tc,htc⟩:∃ l,(tkAt T i).col=l:=⟨_,rfl⟩
 rw[htl,htc]
 have HP:Hid (badP T i 4=.bad 4 tl tc):=by unfold Hid;unfold badP;rw[htl,htc]
 have HBx:=Lh (HB3.out.trans (hb3.mono HB3.out.size))
 have hq3:=HQ3.out.below hb3
 obtain⟨c0,c1,c2,c3,c4⟩:=hq3.facts
 obtain⟨z0,z1,z2,z3,z4⟩:=hq3.free
 have hlt3:=hq3.lt
 have HE:=Lh (hq3.stored (.slice none 0 0) 0 4 tl tc).facts
 clear hb3 hq3 htl htc
 go_wp2
 obtain⟨e0,e1,e2,e3,e4⟩:=HE.out
 refine bodyPost_ret (v:=.agg #[.slice none 0 0,.int .i64 0,.int .i64 4,.int .i64 tl,.int .i64 tc]) (by simp[results,Tryz.results124,go_sem,e0,e1,e2,e3,e4]) rfl ?_
 exact RPost.fault HP.out 0 (by decide) rfl (below_tok HBx.out (Nat.le_refl _) _ _ _ _ _)
theorem rsign_until7 (n:Nat) (hn:n≤24) {w:World} {B:Nat} {lv:Value} {T:List Tk} (h:TkIn w B lv T) (hB:B≤w.heap.size) (i:Int) (hhi:i≤1000000) (d:Int) (hd:d=24 - (n:Int)) (hf:RFormOK n) (ho:isTk T i 4 sOpen=false) (hkind: (tkAt T i).kind=2) (hk:idxP notL (tkAt T i).text=7) :
 Calls Tryz.prog 124 #[lv,.int .i64 i,.int .i64 d,.bool true] w (RPost w (untilP T (bothP T true n).2 25 i)):=by
 have hTl:=h.len
 have HTK:Hid (∀ W,Below w.heap.size w W→TkIn W B lv T):=fun W hW=>h.below (hW.mono hB)
 have HB0:=Lh ((Below.refl w.heap.size w).alloc (Nat.le_refl _) oB6)
 have HQ:=Lh (show PrB (w.alloc oB6) w.heap.size (.slice none 0 0) 0 0 0 0 from heap_alloc_new w _)
 have hdd:d≤24:=by omega
 have hd0:0≤d:=by omega
 have HDN:=Lh (show d+1=25 - (n:Int) by omega)
 have HUN:Hid (∀ W,Below w.heap.size w W→Calls Tryz.prog 145 #[lv,.int .i64 i,.int .i64 d,.int .i64 25] W (RPost W (untilP T (bothP T true n).2 25 i))):=fun W hW=>
  runtil_any n (by omega) hf (h.below (hW.mono hB)) (Nat.le_trans hB hW.size) i (tkAt_in (T:=T) (i:=i) (by omega)).1 hhi d 25 (by omega) (by omega)
 clear hf
 have Hqo:Hid (isTk T i 4 sOpen=false):=ho
 obtain⟨x,hx⟩:∃ x,tkAt T i=x:=⟨_,rfl⟩
 rw[hx] at hkind
 have HX:=Lh hx
 have yd: (x.kind == 2)=true:=by rw[beq_iff_eq];exact hkind
 have yd2: (x.kind !=2)=false:=by simp[bne,yd]
 rw[hx] at hk
 have HK:=Lh hk
 clear h ho hd hkind hx hk
 go_enter Tryz.func124,Tryz.ntmps124
 go_wp2_with fail
 refine(rcis_any (HTK.out _ HB0.out) i 4 ⟨#[40]⟩).mono ?_
 rw[show isTk T i 4 ⟨#[40]⟩ = false from Hqo.out]
 rintro e w1 ⟨rfl,hb⟩
 have HB1:=Lh (HB0.out.trans (hb.mono HB0.out.size))
 have HQ1:=Lh (HQ.out.below hb)
 clear hb
 go_wp2_with fail
 refine(rctok_any (HTK.out _ HB1.out) i).mono ?_
 rintro e w2 ⟨rfl,hb⟩
 rw[HX.out]
 unfold tokV
 have HB2:=Lh ((HB1.out.trans (hb.mono HB1.out.size)).alloc (Nat.le_trans HB1.out.size hb.size) (tO x))
 have HQ2:=Lh ((HQ1.out.below hb).alloc (tO x))
 have HT2:=Lh (show TkB (w2.alloc (tO x)) w2.heap.size x from heap_alloc_new w2 _)
 have hlt2:=(HQ1.out.below hb).lt
 obtain⟨d0,d1,d2,d3,d4⟩:=HT2.out.facts
 clear hb
 have HB3:=Lh (HB2.out.alloc HB2.out.size oB1)
 have HQ3:=Lh (HQ2.out.alloc oB1)
 have HT3:=Lh (HT2.out.alloc oB1)
 have hn3: (w2.alloc (tO x) |>.alloc oB1).heap[w2.heap.size+1]?=some oB10:=heap_at_size _ _ _ (by simp)
 have HN3:=Lh (show Reads (w2.alloc (tO x) |>.alloc oB1) (.slice (some ⟨w2.heap.size+1,0,none⟩) 9 9) (strs notL) from blk_reads hn3 9 (by decide))
 clear hn3
 obtain⟨f0,f1,f2,f3,f4⟩:=HT3.out.facts
 go_wp2_with fail
 refine(rcindex_any _ notL x.text _ HN3.out (by decide)).mono ?_
 rintro e w' ⟨rfl,rfl⟩
 rw[HK.out]
 cases hp9:untilP T (bothP T true n).2 25 i with
 | bad er l c=>
   have HP9:=Lh hp9
   clear hp9
   go_wp2_with fail
   refine(HUN.out _ HB3.out).mono ?_
   rw[HP9.out]
   rintro e w9 ⟨av,h0,rfl,hb3⟩
   have H0:=Lh h0
   have HP:Hid (untilP T (bothP T true n).2 25 i=.bad er l c):=by unfold Hid;skip;exact HP9.out
   have HBx:=Lh (HB3.out.trans (hb3.mono HB3.out.size))
   have hq3:=HQ3.out.below hb3
   obtain⟨c0,c1,c2,c3,c4⟩:=hq3.facts
   obtain⟨z0,z1,z2,z3,z4⟩:=hq3.free
   have hlt3:=hq3.lt
   have HE:=Lh (hq3.stored (.slice none 0 0) av er l c).facts
   clear hb3 hq3 h0
   go_wp2
   obtain⟨e0,e1,e2,e3,e4⟩:=HE.out
   refine bodyPost_ret (v:=.agg #[.slice none 0 0,.int .i64 av,.int .i64 er,.int .i64 l,.int .i64 c]) (by simp[results,Tryz.results124,go_sem,e0,e1,e2,e3,e4]) rfl ?_
   exact RPost.fault HP.out av H0.out rfl (below_tok HBx.out (Nat.le_refl _) _ _ _ _ _)
 | ok o a=>
   have HP9:=Lh hp9
   clear hp9
   go_wp2_with fail
   refine(HUN.out _ HB3.out).mono ?_
   rw[HP9.out]
   rintro e w9 ⟨g9,cap9,rfl,hown9,hb3⟩
   have HP:Hid (untilP T (bothP T true n).2 25 i=.ok o a):=by unfold Hid;skip;exact HP9.out
   have hs3:=Nat.le_trans HB3.out.size (Nat.le_refl _)
   have HBx:=Lh (HB3.out.trans (hb3.mono HB3.out.size))
   have hq3:=HQ3.out.below hb3
   obtain⟨c0,c1,c2,c3,c4⟩:=hq3.facts
   obtain⟨z0,z1,z2,z3,z4⟩:=hq3.free
   have hlt3:=hq3.lt
   have HE:=Lh (hq3.stored (.slice (some ⟨g9,0,none⟩) o.length cap9) a 0 0 0).facts
   have HOWN:=Lh (hq3.row (owns_mono hown9 hs3) (by decide) (.slice (some ⟨g9,0,none⟩) o.length cap9) a 0 0 0)
   clear hb3 hq3 hown9 hs3
   go_wp2
   obtain⟨e0,e1,e2,e3,e4⟩:=HE.out
   refine bodyPost_ret (v:=.agg #[.slice (some ⟨g9,0,none⟩) o.length cap9,.int .i64 a,.int .i64 0,.int .i64 0,.int .i64 0]) (by simp[results,Tryz.results124,go_sem,e0,e1,e2,e3,e4]) rfl ?_
   exact RPost.good HP.out rfl rfl HOWN.out (below_tok HBx.out (Nat.le_refl _) _ _ _ _ _)
theorem rsign_until8 (n:Nat) (hn:n≤24) {w:World} {B:Nat} {lv:Value} {T:List Tk} (h:TkIn w B lv T) (hB:B≤w.heap.size) (i:Int) (hhi:i≤1000000) (d:Int) (hd:d=24 - (n:Int)) (hf:RFormOK n) (ho:isTk T i 4 sOpen=false) (hkind: (tkAt T i).kind=2) (hk:idxP notL (tkAt T i).text=8) :
 Calls Tryz.prog 124 #[lv,.int .i64 i,.int .i64 d,.bool true] w (RPost w (untilP T (bothP T true n).2 26 i)):=by
 have hTl:=h.len
 have HTK:Hid (∀ W,Below w.heap.size w W→TkIn W B lv T):=fun W hW=>h.below (hW.mono hB)
 have HB0:=Lh ((Below.refl w.heap.size w).alloc (Nat.le_refl _) oB6)
 have HQ:=Lh (show PrB (w.alloc oB6) w.heap.size (.slice none 0 0) 0 0 0 0 from heap_alloc_new w _)
 have hdd:d≤24:=by omega
 have hd0:0≤d:=by omega
 have HDN:=Lh (show d+1=25 - (n:Int) by omega)
 have HUN:Hid (∀ W,Below w.heap.size w W→Calls Tryz.prog 145 #[lv,.int .i64 i,.int .i64 d,.int .i64 26] W (RPost W (untilP T (bothP T true n).2 26 i))):=fun W hW=>
  runtil_any n (by omega) hf (h.below (hW.mono hB)) (Nat.le_trans hB hW.size) i (tkAt_in (T:=T) (i:=i) (by omega)).1 hhi d 26 (by omega) (by omega)
 clear hf
 have Hqo:Hid (isTk T i 4 sOpen=false):=ho
 obtain⟨x,hx⟩:∃ x,tkAt T i=x:=⟨_,rfl⟩
 rw[hx] at hkind
 have HX:=Lh hx
 have yd: (x.kind == 2)=true:=by rw[beq_iff_eq];exact hkind
 have yd2: (x.kind !=2)=false:=by simp[bne,yd]
 rw[hx] at hk
 have HK:=Lh hk
 clear h ho hd hkind hx hk
 go_enter Tryz.func124,Tryz.ntmps124
 go_wp2_with fail
 refine(rcis_any (HTK.out _ HB0.out) i 4 ⟨#[40]⟩).mono ?_
 rw[show isTk T i 4 ⟨#[40]⟩ = false from Hqo.out]
 rintro e w1 ⟨rfl,hb⟩
 have HB1:=Lh (HB0.out.trans (hb.mono HB0.out.size))
 have HQ1:=Lh (HQ.out.below hb)
 clear hb
 go_wp2_with fail
 refine(rctok_any (HTK.out _ HB1.out) i).mono ?_
 rintro e w2 ⟨rfl,hb⟩
 rw[HX.out]
 unfold tokV
 have HB2:=Lh ((HB1.out.trans (hb.mono HB1.out.size)).alloc (Nat.le_trans HB1.out.size hb.size) (tO x))
 have HQ2:=Lh ((HQ1.out.below hb).alloc (tO x))
 have HT2:=Lh (show TkB (w2.alloc (tO x)) w2.heap.size x from heap_alloc_new w2 _)
 have hlt2:=(HQ1.out.below hb).lt
 obtain⟨d0,d1,d2,d3,d4⟩:=HT2.out.facts
 clear hb
 have HB3:=Lh (HB2.out.alloc HB2.out.size oB1)
 have HQ3:=Lh (HQ2.out.alloc oB1)
 have HT3:=Lh (HT2.out.alloc oB1)
 have hn3: (w2.alloc (tO x) |>.alloc oB1).heap[w2.heap.size+1]?=some oB10:=heap_at_size _ _ _ (by simp)
 have HN3:=Lh (show Reads (w2.alloc (tO x) |>.alloc oB1) (.slice (some ⟨w2.heap.size+1,0,none⟩) 9 9) (strs notL) from blk_reads hn3 9 (by decide))
 clear hn3
 obtain⟨f0,f1,f2,f3,f4⟩:=HT3.out.facts
 go_wp2_with fail
 refine(rcindex_any _ notL x.text _ HN3.out (by decide)).mono ?_
 rintro e w' ⟨rfl,rfl⟩
 rw[HK.out]
 cases hp9:untilP T (bothP T true n).2 26 i with
 | bad er l c=>
   have HP9:=Lh hp9
   clear hp9
   go_wp2_with fail
   refine(HUN.out _ HB3.out).mono ?_
   rw[HP9.out]
   rintro e w9 ⟨av,h0,rfl,hb3⟩
   have H0:=Lh h0
   have HP:Hid (untilP T (bothP T true n).2 26 i=.bad er l c):=by unfold Hid;skip;exact HP9.out
   have HBx:=Lh (HB3.out.trans (hb3.mono HB3.out.size))
   have hq3:=HQ3.out.below hb3
   obtain⟨c0,c1,c2,c3,c4⟩:=hq3.facts
   obtain⟨z0,z1,z2,z3,z4⟩:=hq3.free
   have hlt3:=hq3.lt
   have HE:=Lh (hq3.stored (.slice none 0 0) av er l c).facts
   clear hb3 hq3 h0
   go_wp2
   obtain⟨e0,e1,e2,e3,e4⟩:=HE.out
   refine bodyPost_ret (v:=.agg #[.slice none 0 0,.int .i64 av,.int .i64 er,.int .i64 l,.int .i64 c]) (by simp[results,Tryz.results124,go_sem,e0,e1,e2,e3,e4]) rfl ?_
   exact RPost.fault HP.out av H0.out rfl (below_tok HBx.out (Nat.le_refl _) _ _ _ _ _)
 | ok o a=>
   have HP9:=Lh hp9
   clear hp9
   go_wp2_with fail
   refine(HUN.out _ HB3.out).mono ?_
   rw[HP9.out]
   rintro e w9 ⟨g9,cap9,rfl,hown9,hb3⟩
   have HP:Hid (untilP T (bothP T true n).2 26 i=.ok o a):=by unfold Hid;skip;exact HP9.out
   have hs3:=Nat.le_trans HB3.out.size (Nat.le_refl _)
   have HBx:=Lh (HB3.out.trans (hb3.mono HB3.out.size))
   have hq3:=HQ3.out.below hb3
   obtain⟨c0,c1,c2,c3,c4⟩:=hq3.facts
   obtain⟨z0,z1,z2,z3,z4⟩:=hq3.free
   have hlt3:=hq3.lt
   have HE:=Lh (hq3.stored (.slice (some ⟨g9,0,none⟩) o.length cap9) a 0 0 0).facts
   have HOWN:=Lh (hq3.row (owns_mono hown9 hs3) (by decide) (.slice (some ⟨g9,0,none⟩) o.length cap9) a 0 0 0)
   clear hb3 hq3 hown9 hs3
   go_wp2
   obtain⟨e0,e1,e2,e3,e4⟩:=HE.out
   refine bodyPost_ret (v:=.agg #[.slice (some ⟨g9,0,none⟩) o.length cap9,.int .i64 a,.int .i64 0,.int .i64 0,.int .i64 0]) (by simp[results,Tryz.results124,go_sem,e0,e1,e2,e3,e4]) rfl ?_
   exact RPost.good HP.out rfl rfl HOWN.out (below_tok HBx.out (Nat.le_refl _) _ _ _ _ _)
end Go.Proofs.YthlofmnmacpogaaGreatDoor
