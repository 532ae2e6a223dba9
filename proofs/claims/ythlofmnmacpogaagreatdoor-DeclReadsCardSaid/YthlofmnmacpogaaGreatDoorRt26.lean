/- A part of a proof of DeclReadsProof. -/
import Derived.Test.YthlofmnmacpogaaGreatDoorRt24
import Derived.Test.YthlofmnmacpogaaGreatDoorRt03
import Derived.Deep.DeepCutAuto
set_option maxRecDepth 100000
set_option maxHeartbeats 40000000
namespace Go.Proofs.YthlofmnmacpogaaGreatDoor
open Go.RowKit
theorem RPost.good {w w':World} {p:PR} {e:Ending} {o:List It} {a:Int} {g n cap:Nat} (hp:p=.ok o a) (hn:o.length=n) (he:e=.returned (.agg #[.slice (some ⟨g,0,none⟩) n cap,.int .i64 a,.int .i64 0,.int .i64 0,.int .i64 0]))
 (ho:w'.ownsRow w.heap.size 87 9 (.slice (some ⟨g,0,none⟩) n cap) n (itFlat o)) (hb:Below w.heap.size w w'):RPost w p e w':=by
 rw[hp];subst hn;exact⟨g,cap,he,ho,hb⟩
theorem owns_alloc {w:World} {base:Nat} {e:TypeId} {sz:Nat} {v:Value} {n:Nat} {xs:List Value} (h:w.ownsRow base e sz v n xs) (o:Obj): (w.alloc o).ownsRow base e sz v n xs:=
 owns_below h ((Below.refl _ w).alloc (Nat.le_refl _) o)
theorem PrB.put1 {w:World} {b:Nat} {v:Value} {a e l c:Int} (h:PrB w b v a e l c) (a2:Int):PrB (w.setCell ⟨b,1,none⟩ (.int .i64 a2)) b v a2 e l c:=
 heap_setCell_same w b 1 _ _ (.int .i64 a2) h
theorem PrB.row1 {w:World} {b base n:Nat} {t:TypeId} {sz:Nat} {vr v:Value} {a e l c:Int} {xs:List Value} (h:PrB w b v a e l c) (hr:w.ownsRow base t sz vr n xs) (ht:117≠t) (a2:Int) :
 (w.setCell ⟨b,1,none⟩ (.int .i64 a2)).ownsRow base t sz vr n xs:=row_store hr h ht _ _
theorem TkIn.len {w:World} {B:Nat} {v:Value} {T:List Tk} (h:TkIn w B v T):T.length≤1000000:=by
 obtain⟨_,_,_,hl,_⟩:=h;exact hl
def RFormOK (n:Nat):Prop:=∀ (w:World) (B:Nat) (lv:Value) (T:List Tk) (i:Int) (prop:Bool) (d:Int),TkIn w B lv T→B≤w.heap.size→ -9223372036854775808≤i→i≤1000000→d=25 - (n:Int)→
 Calls Tryz.prog 90 #[lv,.int .i64 i,.int .i64 d,.bool prop] w (RPost w ((bothP T prop n).2 i))
def RSignOK (n:Nat):Prop:=∀ (w:World) (B:Nat) (lv:Value) (T:List Tk) (i:Int) (prop:Bool) (d:Int),TkIn w B lv T→B≤w.heap.size→ -9223372036854775808≤i→i≤1000000→d=25 - (n:Int)→
 Calls Tryz.prog 124 #[lv,.int .i64 i,.int .i64 d,.bool prop] w (RPost w ((bothP T prop n).1 i))
theorem runtil_any (n:Nat) (hn:n≤25) (hf:RFormOK n) {w:World} {B:Nat} {lv:Value} {T:List Tk} (h:TkIn w B lv T) (hB:B≤w.heap.size) (i:Int) (hi0:0≤i) (hhi:i≤1000000) (d op:Int) (hd:d+1=25 - (n:Int)) (hd9:0≤d) :
 Calls Tryz.prog 145 #[lv,.int .i64 i,.int .i64 d,.int .i64 op] w (RPost w (untilP T (bothP T true n).2 op i)):=by
 obtain⟨x,hx⟩:∃ x,tkAt T i=x:=⟨_,rfl⟩
 have HX:=Lh hx
 have hTl:=h.len
 have HTK:Hid (∀ W,Below w.heap.size w W→TkIn W B lv T):=fun W hW=>h.below (hW.mono hB)
 have HB0:=Lh ((Below.refl w.heap.size w).alloc (Nat.le_refl _) oB6)
 have HQ:=Lh (show PrB (w.alloc oB6) w.heap.size (.slice none 0 0) 0 0 0 0 from heap_alloc_new w _)
 have HFO:=Lh hf
 have HG:=Lh (both_good T true n).2
 have HFL:=Lh (both_full T true n).2
 obtain⟨form,hform⟩:∃ f,(bothP T true n).2=f:=⟨_,rfl⟩
 have HFM:=Lh hform
 rw[hform]
 unfold Hid at HG HFL
 rw[hform] at HG HFL
 have HG:=Lh HG;have HFL:=Lh HFL
 have HDN:=Lh hd
 have hd1:d≤24:=by omega
 have HU:Hid (untilP T form op i=needP T (i+1) 4 sBegin fun a=>(form a).also fun o1 b=>needP T b 2 wU fun c=>(form c).also fun o2 d=>needP T d 4 sEnd fun e=>.ok (o1 ++o2 ++ [⟨op,⟨#[]⟩,0,⟨#[]⟩,0,⟨#[]⟩,⟨#[]⟩,x.line,x.col⟩]) e):=by
  unfold Hid untilP;rw[hx];rfl
 have hfx3:∀ w:World,(Instr.field 48 (.agg #[.int .i64 x.kind,.string x.text,.int .i64 x.num,.int .i64 x.line,.int .i64 x.col]) 3).run Tryz.prog w=.ok (.agg #[.int .i64 x.line,.int .i64 x.col]) w:=fun _=>by kernel_rfl
 clear h hf hform hx hd
 go_enter Tryz.func145,Tryz.ntmps145
 go_wp2_with fail
 obtain⟨qa,hqa⟩:∃ q,isTk T (i+1) 4 sBegin=q:=⟨_,rfl⟩
 have Hqa:=Lh hqa
 clear hqa
 refine(rcis_any (HTK.out _ HB0.out) (i+1) 4 ⟨#[91]⟩).mono ?_
 rw[show isTk T (i+1) 4 ⟨#[91]⟩ = qa from Hqa.out]
 rintro e w1 ⟨rfl,hb⟩
 cases qa
 · have HB1:=Lh (HB0.out.trans (hb.mono HB0.out.size))
   have HQ1:=Lh (HQ.out.below hb)
   clear hb
   go_wp2_with fail
   refine(rcbad_any (HTK.out _ HB1.out) (Nat.le_trans hB HB1.out.size) (i+1) 4).mono ?_
   rintro e w9 ⟨rfl,hb3⟩
   obtain⟨tl,htl⟩:∃ l,(tkAt T (i+1)).line=l:=⟨_,rfl⟩
   obtain⟨tc,htc⟩:∃ l,(tkAt T (i+1)).col=l:=⟨_,rfl⟩
   rw[htl,htc]
   have HP:Hid (untilP T form op i=.bad 4 tl tc):=by unfold Hid;rw[HU.out,needP_bad Hqa.out];rw[htl,htc]
   have HBx:=Lh (HB1.out.trans (hb3.mono HB1.out.size))
   have hq3:=HQ1.out.below hb3
   obtain⟨c0,c1,c2,c3,c4⟩:=hq3.facts
   obtain⟨z0,z1,z2,z3,z4⟩:=hq3.free
   have hlt3:=hq3.lt
   have HE:=Lh (hq3.stored (.slice none 0 0) 0 4 tl tc).facts
   clear hb3 hq3 htl htc
   go_wp2
   obtain⟨e0,e1,e2,e3,e4⟩:=HE.out
   refine bodyPost_ret (v:=.agg #[.slice none 0 0,.int .i64 0,.int .i64 4,.int .i64 tl,.int .i64 tc]) (by simp[results,Tryz.results145,go_sem,e0,e1,e2,e3,e4]) rfl ?_
   exact RPost.fault HP.out 0 (by decide) rfl (below_tok HBx.out (Nat.le_refl _) _ _ _ _ _)
 have hga:=isTk_in Hqa.out (by decide)
 have HB1:=Lh (HB0.out.trans (hb.mono HB0.out.size))
 have HQ1:=Lh (HQ.out.below hb)
 clear hb
 unfold Hid at HU
 rw[needP_ok Hqa.out,show i+1+1=i+2 by omega] at HU
 have HU:=Lh HU
 go_wp2_with fail
 cases hp1:form (i+2) with
 | bad er l c=>
   have HE1:=Lh hp1
   clear hp1
   refine(HFO.out _ B lv T (i+2) true (d+1) (HTK.out _ HB1.out) (Nat.le_trans hB HB1.out.size) (by omega) (by omega) HDN.out).mono ?_
   rw[HFM.out,HE1.out]
   rintro e w2 ⟨av,h0,rfl,hb⟩
   have ne: (er == 0)=false:=beq_eq_false_iff_ne.2 h0
   have ne2: (er !=0)=true:=by simp[bne,ne]
   have HP:Hid (untilP T form op i=.bad er l c):=by unfold Hid;rw[HU.out,also_of_bad HE1.out]
   have H0:=Lh h0
   have HBx:=Lh ((HB1.out.trans (hb.mono HB1.out.size)).alloc (Nat.le_trans HB1.out.size hb.size) (.cells #[.slice none 0 0,.int .i64 av,.int .i64 er,.int .i64 l,.int .i64 c] 117))
   have hq3:=(HQ1.out.below hb).alloc (.cells #[.slice none 0 0,.int .i64 av,.int .i64 er,.int .i64 l,.int .i64 c] 117)
   have hlt3:=hq3.lt
   have ha3:=(show PrB (w2.alloc (.cells #[.slice none 0 0,.int .i64 av,.int .i64 er,.int .i64 l,.int .i64 c] 117)) w2.heap.size (.slice none 0 0) av er l c from heap_alloc_new w2 _)
   have d2:=ha3.facts.2.2.1
   clear hb h0
   go_upto_if 29 with fail
   obtain⟨WW,hWW⟩:∃ W,w2.alloc (.cells #[.slice none 0 0,.int .i64 av,.int .i64 er,.int .i64 l,.int .i64 c] 117)=W:=⟨_,rfl⟩
   rw[hWW] at hq3 ha3 HBx hlt3 ⊢
   clear hWW d2
   obtain⟨c0,c1,c2,c3,c4⟩:=hq3.facts
   obtain⟨z0,z1,z2,z3,z4⟩:=hq3.free
   obtain⟨d0,d1,d2,d3,d4⟩:=ha3.facts
   have HE:=Lh (hq3.stored (.slice none 0 0) av er l c).facts
   clear hq3 ha3
   go_wp2
   obtain⟨e0,e1,e2,e3,e4⟩:=HE.out
   refine bodyPost_ret (v:=.agg #[.slice none 0 0,.int .i64 av,.int .i64 er,.int .i64 l,.int .i64 c]) (by simp[results,Tryz.results145,go_sem,e0,e1,e2,e3,e4]) rfl ?_
   exact RPost.fault HP.out av H0.out rfl (below_tok HBx.out (Nat.le_refl _) _ _ _ _ _)
 | ok o1 a1=>
   have hg1:=HG.out _ _ _ hp1
   have HN1:=Lh (HFL.out _ _ _ hp1)
   have HL1:=Lh (show o1.length≤1000000 by omega)
   have HE1:=Lh hp1
   unfold Hid at HU
   rw[also_of_ok hp1] at HU
   have HU:=Lh HU
   clear hp1
   refine(HFO.out _ B lv T (i+2) true (d+1) (HTK.out _ HB1.out) (Nat.le_trans hB HB1.out.size) (by omega) (by omega) HDN.out).mono ?_
   rw[HFM.out,HE1.out]
   rintro e w2 ⟨g1,cap1,rfl,hrow,hb⟩
   have HB2:=Lh ((HB1.out.trans (hb.mono HB1.out.size)).alloc (Nat.le_trans HB1.out.size hb.size) (.cells #[.slice (some ⟨g1,0,none⟩) o1.length cap1,.int .i64 a1,.int .i64 0,.int .i64 0,.int .i64 0] 117))
   have HQ2:=Lh ((HQ1.out.below hb).alloc (.cells #[.slice (some ⟨g1,0,none⟩) o1.length cap1,.int .i64 a1,.int .i64 0,.int .i64 0,.int .i64 0] 117))
   have HA2:=Lh (show PrB (w2.alloc (.cells #[.slice (some ⟨g1,0,none⟩) o1.length cap1,.int .i64 a1,.int .i64 0,.int .i64 0,.int .i64 0] 117)) w2.heap.size (.slice (some ⟨g1,0,none⟩) o1.length cap1) a1 0 0 0 from heap_alloc_new w2 _)
   have HR1:=Lh (owns_alloc hrow (.cells #[.slice (some ⟨g1,0,none⟩) o1.length cap1,.int .i64 a1,.int .i64 0,.int .i64 0,.int .i64 0] 117))
   have hlt2:=(HQ1.out.below hb).lt
   obtain⟨d0,d1,d2,d3,d4⟩:=HA2.out.facts
   clear hb hrow
   go_wp2_with fail
   obtain⟨qb,hqb⟩:∃ q,isTk T a1 2 wU=q:=⟨_,rfl⟩
   have Hqb:=Lh hqb
   clear hqb
   refine(rcis_any (HTK.out _ HB2.out) a1 2 ⟨#[85]⟩).mono ?_
   rw[show isTk T a1 2 ⟨#[85]⟩ = qb from Hqb.out]
   rintro e w3 ⟨rfl,hb⟩
   cases qb
   · have HB3:=Lh (HB2.out.trans (hb.mono HB2.out.size))
     have HQ3:=Lh (HQ2.out.below hb)
     obtain⟨g0,g1',g2',g3,g4⟩:=(HA2.out.below hb).facts
     clear hb d0 d1 d2 d3 d4
     go_wp2_with fail
     refine(rcbad_any (HTK.out _ HB3.out) (Nat.le_trans hB HB3.out.size) a1 4).mono ?_
     rintro e w9 ⟨rfl,hb3⟩
     obtain⟨tl,htl⟩:∃ l,(tkAt T a1).line=l:=⟨_,rfl⟩
     obtain⟨tc,htc⟩:∃ l,(tkAt T a1).col=l:=⟨_,rfl⟩
     rw[htl,htc]
     have HP:Hid (untilP T form op i=.bad 4 tl tc):=by unfold Hid;rw[HU.out,needP_bad Hqb.out];rw[htl,htc]
     have HBx:=Lh (HB3.out.trans (hb3.mono HB3.out.size))
     have hq3:=HQ3.out.below hb3
     obtain⟨c0,c1,c2,c3,c4⟩:=hq3.facts
     obtain⟨z0,z1,z2,z3,z4⟩:=hq3.free
     have hlt3:=hq3.lt
     have HE:=Lh (hq3.stored (.slice none 0 0) 0 4 tl tc).facts
     clear hb3 hq3 htl htc
     go_wp2
     obtain⟨e0,e1,e2,e3,e4⟩:=HE.out
     refine bodyPost_ret (v:=.agg #[.slice none 0 0,.int .i64 0,.int .i64 4,.int .i64 tl,.int .i64 tc]) (by simp[results,Tryz.results145,go_sem,e0,e1,e2,e3,e4]) rfl ?_
     exact RPost.fault HP.out 0 (by decide) rfl (below_tok HBx.out (Nat.le_refl _) _ _ _ _ _)
   have hgb:=isTk_in Hqb.out (by decide)
   have HB3:=Lh (HB2.out.trans (hb.mono HB2.out.size))
   have HQ3:=Lh (HQ2.out.below hb)
   have HA3:=Lh (HA2.out.below hb)
   have HR1:=Lh (owns_below HR1.out hb)
   obtain⟨g0,g1',g2',g3,g4⟩:=HA3.out.facts
   clear hb d0 d1 d2 d3 d4
   unfold Hid at HU
   rw[needP_ok Hqb.out] at HU
   have HU:=Lh HU
   go_wp2_with fail
   cases hp2:form (a1+1) with
   | bad er l c=>
     have HE2:=Lh hp2
     clear hp2
     refine(HFO.out _ B lv T (a1+1) true (d+1) (HTK.out _ HB3.out) (Nat.le_trans hB HB3.out.size) (by omega) (by omega) HDN.out).mono ?_
     rw[HFM.out,HE2.out]
     rintro e w4 ⟨av,h0,rfl,hb⟩
     have ne: (er == 0)=false:=beq_eq_false_iff_ne.2 h0
     have ne2: (er !=0)=true:=by simp[bne,ne]
     have HP:Hid (untilP T form op i=.bad er l c):=by unfold Hid;rw[HU.out,also_of_bad HE2.out]
     have H0:=Lh h0
     have HBx:=Lh ((HB3.out.trans (hb.mono HB3.out.size)).alloc (Nat.le_trans HB3.out.size hb.size) (.cells #[.slice none 0 0,.int .i64 av,.int .i64 er,.int .i64 l,.int .i64 c] 117))
     have hq3:=(HQ3.out.below hb).alloc (.cells #[.slice none 0 0,.int .i64 av,.int .i64 er,.int .i64 l,.int .i64 c] 117)
     have hlt3:=hq3.lt
     have ha3:=(show PrB (w4.alloc (.cells #[.slice none 0 0,.int .i64 av,.int .i64 er,.int .i64 l,.int .i64 c] 117)) w4.heap.size (.slice none 0 0) av er l c from heap_alloc_new w4 _)
     have d2:=ha3.facts.2.2.1
     clear hb h0
     go_upto_if 50 with fail
     obtain⟨WW,hWW⟩:∃ W,w4.alloc (.cells #[.slice none 0 0,.int .i64 av,.int .i64 er,.int .i64 l,.int .i64 c] 117)=W:=⟨_,rfl⟩
     rw[hWW] at hq3 ha3 HBx hlt3 ⊢
     clear hWW d2
     obtain⟨c0,c1,c2,c3,c4⟩:=hq3.facts
     obtain⟨z0,z1,z2,z3,z4⟩:=hq3.free
     obtain⟨d0,d1,d2,d3,d4⟩:=ha3.facts
     have HE:=Lh (hq3.stored (.slice none 0 0) av er l c).facts
     clear hq3 ha3
     go_wp2
     obtain⟨e0,e1,e2,e3,e4⟩:=HE.out
     refine bodyPost_ret (v:=.agg #[.slice none 0 0,.int .i64 av,.int .i64 er,.int .i64 l,.int .i64 c]) (by simp[results,Tryz.results145,go_sem,e0,e1,e2,e3,e4]) rfl ?_
     exact RPost.fault HP.out av H0.out rfl (below_tok HBx.out (Nat.le_refl _) _ _ _ _ _)
   | ok o2 a2=>
     have hg2:=HG.out _ _ _ hp2
     have HN2:=Lh (HFL.out _ _ _ hp2)
     have HL2:=Lh (show o2.length≤1000000 by omega)
     have HE2:=Lh hp2
     unfold Hid at HU
     rw[also_of_ok hp2] at HU
     have HU:=Lh HU
     clear hp2
     refine(HFO.out _ B lv T (a1+1) true (d+1) (HTK.out _ HB3.out) (Nat.le_trans hB HB3.out.size) (by omega) (by omega) HDN.out).mono ?_
     rw[HFM.out,HE2.out]
     rintro e w4 ⟨g2,cap2,rfl,hrow,hb⟩
     have hr2:=hrow
     have HB4:=Lh ((HB3.out.trans (hb.mono HB3.out.size)).alloc (Nat.le_trans HB3.out.size hb.size) (.cells #[.slice (some ⟨g2,0,none⟩) o2.length cap2,.int .i64 a2,.int .i64 0,.int .i64 0,.int .i64 0] 117))
     have HQ4:=Lh ((HQ3.out.below hb).alloc (.cells #[.slice (some ⟨g2,0,none⟩) o2.length cap2,.int .i64 a2,.int .i64 0,.int .i64 0,.int .i64 0] 117))
     have HA4:=Lh ((HA3.out.below hb).alloc (.cells #[.slice (some ⟨g2,0,none⟩) o2.length cap2,.int .i64 a2,.int .i64 0,.int .i64 0,.int .i64 0] 117))
     have HC4:=Lh (show PrB (w4.alloc (.cells #[.slice (some ⟨g2,0,none⟩) o2.length cap2,.int .i64 a2,.int .i64 0,.int .i64 0,.int .i64 0] 117)) w4.heap.size (.slice (some ⟨g2,0,none⟩) o2.length cap2) a2 0 0 0 from heap_alloc_new w4 _)
     have HR1:=Lh (owns_alloc (owns_below HR1.out hb) (.cells #[.slice (some ⟨g2,0,none⟩) o2.length cap2,.int .i64 a2,.int .i64 0,.int .i64 0,.int .i64 0] 117))
     have HR2:=Lh (owns_alloc hrow (.cells #[.slice (some ⟨g2,0,none⟩) o2.length cap2,.int .i64 a2,.int .i64 0,.int .i64 0,.int .i64 0] 117))
     have hlt4:=(HA3.out.below hb).lt
     have hltq4:=(HQ3.out.below hb).lt
     obtain⟨d0,d1,d2,d3,d4⟩:=HC4.out.facts
     clear hb hrow hr2
     go_wp2_with fail
     obtain⟨qc,hqc⟩:∃ q,isTk T a2 4 sEnd=q:=⟨_,rfl⟩
     have Hqc:=Lh hqc
     clear hqc
     refine(rcis_any (HTK.out _ HB4.out) a2 4 ⟨#[93]⟩).mono ?_
     rw[show isTk T a2 4 ⟨#[93]⟩ = qc from Hqc.out]
     rintro e w5 ⟨rfl,hb⟩
     cases qc
     · have HB5:=Lh (HB4.out.trans (hb.mono HB4.out.size))
       have HQ5:=Lh (HQ4.out.below hb)
       obtain⟨g0,g1',g2',g3,g4⟩:=(HC4.out.below hb).facts
       clear hb d0 d1 d2 d3 d4
       go_wp2_with fail
       refine(rcbad_any (HTK.out _ HB5.out) (Nat.le_trans hB HB5.out.size) a2 4).mono ?_
       rintro e w9 ⟨rfl,hb3⟩
       obtain⟨tl,htl⟩:∃ l,(tkAt T a2).line=l:=⟨_,rfl⟩
       obtain⟨tc,htc⟩:∃ l,(tkAt T a2).col=l:=⟨_,rfl⟩
       rw[htl,htc]
       have HP:Hid (untilP T form op i=.bad 4 tl tc):=by unfold Hid;rw[HU.out,needP_bad Hqc.out];rw[htl,htc]
       have HBx:=Lh (HB5.out.trans (hb3.mono HB5.out.size))
       have hq3:=HQ5.out.below hb3
       obtain⟨c0,c1,c2,c3,c4⟩:=hq3.facts
       obtain⟨z0,z1,z2,z3,z4⟩:=hq3.free
       have hlt3:=hq3.lt
       have HE:=Lh (hq3.stored (.slice none 0 0) 0 4 tl tc).facts
       clear hb3 hq3 htl htc
       go_wp2
       obtain⟨e0,e1,e2,e3,e4⟩:=HE.out
       refine bodyPost_ret (v:=.agg #[.slice none 0 0,.int .i64 0,.int .i64 4,.int .i64 tl,.int .i64 tc]) (by simp[results,Tryz.results145,go_sem,e0,e1,e2,e3,e4]) rfl ?_
       exact RPost.fault HP.out 0 (by decide) rfl (below_tok HBx.out (Nat.le_refl _) _ _ _ _ _)
     have hwa:IntKind.i64.wrap (a2+1)=a2+1:=IntWalk.i64_in _ ⟨by omega,by omega⟩
     have HP:Hid (untilP T form op i=.ok (o1 ++o2 ++ [⟨op,⟨#[]⟩,0,⟨#[]⟩,0,⟨#[]⟩,⟨#[]⟩,x.line,x.col⟩]) (a2+1)):=by unfold Hid;rw[HU.out,needP_ok Hqc.out]
     have hc5:=HC4.out.below hb
     have hb5:=(HB4.out.trans (hb.mono HB4.out.size))
     have hq5:=HQ4.out.below hb
     have ha5:=HA4.out.below hb
     obtain⟨g0,g1',g2',g3,g4⟩:=hc5.facts
     obtain⟨v0,v1,v2,v3,v4⟩:=hc5.free
     have hlt5:=hc5.lt
     have HB5:=Lh (hb5.setCell (p:=⟨w4.heap.size,1,none⟩) (show w.heap.size≤w4.heap.size by omega) (.int .i64 (a2+1)))
     have HQ5:=Lh (hq5.over (k:=w4.heap.size) (j:=1) (by omega) (.int .i64 (a2+1)))
     have HA5:=Lh (ha5.over (k:=w4.heap.size) (j:=1) (by omega) (.int .i64 (a2+1)))
     have HC5:=Lh (hc5.put1 (a2+1))
     have HR1:=Lh (hc5.row1 (owns_below HR1.out hb) (by decide) (a2+1))
     have HR2:=Lh (hc5.row1 (owns_below HR2.out hb) (by decide) (a2+1))
     clear hb hb5 hq5 ha5 hc5 d0 d1 d2 d3 d4
     go_wp2
     obtain⟨W5,hW5⟩:∃ W,w5.setCell ⟨w4.heap.size,1,none⟩ (.int .i64 (a2+1))=W:=⟨_,rfl⟩
     rw[hW5] at HB5 HQ5 HA5 HC5 HR1 HR2 ⊢
     clear hW5 g0 g1' g2' g3 g4 v0 v1 v2 v3 v4 HB0 HB2 HB3 HB4 HQ HQ2 HQ3 HQ4 HA2 HA3 HA4 HC4
     obtain⟨n0,n1,n2,n3,n4⟩:=HA5.out.drew.facts
     obtain⟨n5,n6,n7,n8,n9⟩:=HC5.out.drew.facts
     have hl5a:=HA5.out.lt;have hl5c:=HC5.out.lt;have hl5q:=HQ5.out.lt
     have hs5:=HB5.out.size
     first
     | (go_region_held3 (fun w'=>w'.cell? ⟨w2.heap.size,0,none⟩ = some (.slice (some ⟨g1,0,none⟩) o1.length cap1)∧w'.cell? ⟨w2.heap.size,1,none⟩ = some (.int .i64 a1)∧w'.cell? ⟨w2.heap.size,2,none⟩ = some (.int .i64 0)∧w'.cell? ⟨w2.heap.size,3,none⟩ = some (.int .i64 0)∧w'.cell? ⟨w2.heap.size,4,none⟩ = some (.int .i64 0)∧w'.cell? ⟨w4.heap.size,0,none⟩ = some (.slice (some ⟨g2,0,none⟩) o2.length cap2)∧w'.cell? ⟨w4.heap.size,1,none⟩ = some (.int .i64 (a2+1))∧w'.cell? ⟨w4.heap.size,2,none⟩ = some (.int .i64 0)∧w'.cell? ⟨w4.heap.size,3,none⟩ = some (.int .i64 0)∧w'.cell? ⟨w4.heap.size,4,none⟩ = some (.int .i64 0))
         (first| (with_reducible exact⟨n0,n1,n2,n3,n4,n5,n6,n7,n8,n9⟩)| (with_reducible exact⟨b0,b1,b2,b3,b4,b5,b6,b7,b8,b9⟩)| (with_reducible exact⟨f0,f1,f2,f3,f4,f5,f6,f7,f8,f9⟩)| (with_reducible exact⟨t0,t1,t2,t3,t4,t5,t6,t7,t8,t9⟩)| (trace_state;fail))
         (first
           | (go_simp;go_at_call 91;(with_reducible refine(rctok_any (HTK.out _ HB5.out.drew) i).mono ?_)
              rintro e w8 ⟨rfl,hb8⟩
              rw[HX.out]
              unfold tokV
              have HB8:=Lh (HB5.out.drew.trans (hb8.mono HB5.out.drew.size))
              have HQ8:=Lh (HQ5.out.drew.below hb8)
              have ha8:=HA5.out.drew.below hb8
              have hc8:=HC5.out.drew.below hb8
              obtain⟨b0,b1,b2,b3,b4⟩:=ha8.facts
              obtain⟨b5,b6,b7,b8,b9⟩:=hc8.facts
              have HA8:=Lh ha8;have HC8:=Lh hc8
              have HR18:=Lh (owns_below HR1.out.drew hb8)
              have HR28:=Lh (owns_below HR2.out.drew hb8)
              have hl8:=HC8.out.lt
              clear hb8 ha8 hc8)
           | (go_simp;go_at_call 107;have hal:=also_two HR18.out HR28.out HN1.out HN2.out HL1.out HL2.out a1 0 0 0 (a2+1) 0 0 0 (⟨op,⟨#[]⟩,0,⟨#[]⟩,0,⟨#[]⟩,⟨#[]⟩,x.line,x.col⟩:It)
              dsimp only at hal
              (with_reducible refine Calls.mono hal ?_)
              clear hal
              rintro e w9 ⟨g9,cap9,rfl,hown9,hb9⟩
              have HB9:=Lh (HB8.out.trans (hb9.mono HB8.out.size))
              have hq9:=HQ8.out.below hb9
              obtain⟨c0,c1,c2,c3,c4⟩:=hq9.facts
              obtain⟨z0,z1,z2,z3,z4⟩:=hq9.free
              have hlt9:=hq9.lt
              have ha9:=HA8.out.below hb9
              have hc9:=HC8.out.below hb9
              obtain⟨f0,f1,f2,f3,f4⟩:=ha9.facts
              obtain⟨f5,f6,f7,f8,f9⟩:=hc9.facts
              obtain⟨t0,t1,t2,t3,t4⟩:=(((((ha9.over (k:=w.heap.size) (j:=0) (by omega) (.slice (some ⟨g9,0,none⟩) (o1.length+o2.length+1) cap9)).over (k:=w.heap.size) (j:=1) (by omega) (.int .i64 (a2+1))).over (k:=w.heap.size) (j:=2) (by omega) (.int .i64 0)).over (k:=w.heap.size) (j:=3) (by omega) (.int .i64 0)).over (k:=w.heap.size) (j:=4) (by omega) (.int .i64 0)).facts
              obtain⟨t5,t6,t7,t8,t9⟩:=(((((hc9.over (k:=w.heap.size) (j:=0) (by omega) (.slice (some ⟨g9,0,none⟩) (o1.length+o2.length+1) cap9)).over (k:=w.heap.size) (j:=1) (by omega) (.int .i64 (a2+1))).over (k:=w.heap.size) (j:=2) (by omega) (.int .i64 0)).over (k:=w.heap.size) (j:=3) (by omega) (.int .i64 0)).over (k:=w.heap.size) (j:=4) (by omega) (.int .i64 0)).facts
              have hsz9:=HB8.out.size
              have HE:=Lh (hq9.stored (.slice (some ⟨g9,0,none⟩) (o1.length+o2.length+1) cap9) (a2+1) 0 0 0).facts
              have HOWN:=Lh (hq9.row (owns_mono hown9 (show w.heap.size≤w8.heap.size by omega)) (by decide) (.slice (some ⟨g9,0,none⟩) (o1.length+o2.length+1) cap9) (a2+1) 0 0 0)
              clear hown9 hb9 hq9 ha9 hc9)))
     | fail
     all_goals
      go_wp2
      obtain⟨e0,e1,e2,e3,e4⟩:=HE.out
      refine bodyPost_ret (v:=.agg #[.slice (some ⟨g9,0,none⟩) (o1.length+o2.length+1) cap9,.int .i64 (a2+1),.int .i64 0,.int .i64 0,.int .i64 0]) (by simp[results,Tryz.results145,go_sem,e0,e1,e2,e3,e4]) rfl ?_
      exact RPost.good HP.out (by simp;omega) rfl HOWN.out (below_tok HB9.out (Nat.le_refl _) _ _ _ _ _)
def ldA:Op:=Op.load 117 (Operand.tmp 9)
theorem ldA_is:Op.load 117 (Operand.tmp 9)=ldA:=rfl
def ldT:Op:=Op.load 3 (Operand.tmp 41)
theorem ldT_is:Op.load 3 (Operand.tmp 41)=ldT:=rfl
attribute [local go_sem] ldA ldT
theorem posOf_is {w:World} {b:Nat} {v:Value} {a e l c:Int} (h:PrB w b v a e l c):posOf w b=a.toNat:=by unfold posOf;rw[h.facts.2.1]
theorem rands_any (n:Nat) (hs:RSignOK n) {w:World} {B:Nat} {lv:Value} {T:List Tk} (h:TkIn w B lv T) (hB:B≤w.heap.size) (i:Int) (hlo:-9223372036854775808≤i) (hhi:i≤1000000) (prop:Bool) (d:Int) (hd:d=25 - (n:Int)) :
 Calls Tryz.prog 105 #[lv,.int .i64 i,.int .i64 d,.bool prop] w (RPost w (rowsP T (bothP T prop n).1 wAnd 16 i)):=by
 have hTl:=h.len
 have HTK:Hid (∀ W,Below w.heap.size w W→TkIn W B lv T):=fun W hW=>h.below (hW.mono hB)
 have HB0:=Lh ((Below.refl w.heap.size w).alloc (Nat.le_refl _) oB6)
 have HQ:=Lh (show PrB (w.alloc oB6) w.heap.size (.slice none 0 0) 0 0 0 0 from heap_alloc_new w _)
 have HC:∀ W,TkIn W B lv T→B≤W.heap.size→∀ i,-9223372036854775808≤i→i≤1000000→Calls Tryz.prog 124 #[lv,.int .i64 i,.int .i64 d,.bool prop] W (RPost W ((bothP T prop n).1 i)):=fun W h1 h2 i h3 h4=>hs W B lv T i prop d h1 h2 h3 h4 hd
 have HG:=(both_good T prop n).1
 have HFL:=(both_full T prop n).1
 clear hs hd
 obtain⟨one,hone⟩:∃ f,(bothP T prop n).1=f:=⟨_,rfl⟩
 rw[hone] at HG HFL HC ⊢
 clear hone
 replace HG:=Lh HG;replace HFL:=Lh HFL;replace HC:=Lh HC
 clear h
 cases hp1:one i with
 | bad er l c=>
   have HE1:=Lh hp1
   have HPR:Hid (rowsP T one wAnd 16 i=.bad er l c):=by unfold Hid rowsP;exact also_of_bad hp1
   clear hp1
   go_enter Tryz.func105,Tryz.ntmps105
   go_wp2_with fail
   refine(HC.out _ (HTK.out _ HB0.out) (Nat.le_trans hB HB0.out.size) i hlo hhi).mono ?_
   rw[HE1.out]
   rintro e w2 ⟨av,h0,rfl,hb⟩
   have H0:=Lh h0
   have ne: (er == 0)=false:=beq_eq_false_iff_ne.2 h0
   have ne2: (er !=0)=true:=by simp[bne,ne]
   have HBx:=Lh ((HB0.out.trans (hb.mono HB0.out.size)).alloc (Nat.le_trans HB0.out.size hb.size) (.cells #[.slice none 0 0,.int .i64 av,.int .i64 er,.int .i64 l,.int .i64 c] 117))
   have hq3:=(HQ.out.below hb).alloc (.cells #[.slice none 0 0,.int .i64 av,.int .i64 er,.int .i64 l,.int .i64 c] 117)
   have ha3:=(show PrB (w2.alloc (.cells #[.slice none 0 0,.int .i64 av,.int .i64 er,.int .i64 l,.int .i64 c] 117)) w2.heap.size (.slice none 0 0) av er l c from heap_alloc_new w2 _)
   have HQ3:=Lh hq3;have HA3:=Lh ha3
   clear hb h0 hq3 ha3
   go_wp2
   go_loopw [10] (fun _ wr=>wr=w2.alloc (.cells #[.slice none 0 0,.int .i64 av,.int .i64 er,.int .i64 l,.int .i64 c] 117)) (fun _ _=>0)
   case atStart=>rfl
   case round=>
    subst hrel
    obtain⟨WW,hWW⟩:∃ W,w2.alloc (.cells #[.slice none 0 0,.int .i64 av,.int .i64 er,.int .i64 l,.int .i64 c] 117)=W:=⟨_,rfl⟩
    rw[hWW] at HQ3 HA3 HBx ⊢
    clear hWW
    obtain⟨d0,d1,d2,d3,d4⟩:=HA3.out.facts
    obtain⟨c0,c1,c2,c3,c4⟩:=HQ3.out.facts
    obtain⟨z0,z1,z2,z3,z4⟩:=HQ3.out.free
    have hlt3:=HQ3.out.lt
    have HE:=Lh (HQ3.out.stored (.slice none 0 0) av er l c).facts
    go_wp2
    obtain⟨e0,e1,e2,e3,e4⟩:=HE.out
    refine bodyPost_ret (v:=.agg #[.slice none 0 0,.int .i64 av,.int .i64 er,.int .i64 l,.int .i64 c]) (by simp[results,Tryz.results105,go_sem,e0,e1,e2,e3,e4]) rfl ?_
    exact RPost.fault HPR.out av H0.out rfl (below_tok HBx.out (Nat.le_refl _) _ _ _ _ _)
 | ok o1 a1=>
   have hg1:=HG.out _ _ _ hp1
   have hf1:=HFL.out _ _ _ hp1
   have HE1:=Lh hp1
   have HPR:Hid (rowsP T one wAnd 16 i=rowP T one wAnd 16 (T.length+1) a1 o1):=by unfold Hid rowsP;exact also_of_ok hp1
   clear hp1
   go_enter Tryz.func105,Tryz.ntmps105
   go_wp2_with fail
   refine(HC.out _ (HTK.out _ HB0.out) (Nat.le_trans hB HB0.out.size) i hlo hhi).mono ?_
   rw[HE1.out]
   rintro e w2 ⟨g1,cap1,rfl,hrow,hb⟩
   have hB2:=((HB0.out.trans (hb.mono HB0.out.size)).alloc (Nat.le_trans HB0.out.size hb.size) (.cells #[.slice (some ⟨g1,0,none⟩) o1.length cap1,.int .i64 a1,.int .i64 0,.int .i64 0,.int .i64 0] 117))
   have hQ2:=((HQ.out.below hb).alloc (.cells #[.slice (some ⟨g1,0,none⟩) o1.length cap1,.int .i64 a1,.int .i64 0,.int .i64 0,.int .i64 0] 117))
   have hA2:=(show PrB (w2.alloc (.cells #[.slice (some ⟨g1,0,none⟩) o1.length cap1,.int .i64 a1,.int .i64 0,.int .i64 0,.int .i64 0] 117)) w2.heap.size (.slice (some ⟨g1,0,none⟩) o1.length cap1) a1 0 0 0 from heap_alloc_new w2 _)
   have hR2:=(owns_mono (owns_alloc hrow (.cells #[.slice (some ⟨g1,0,none⟩) o1.length cap1,.int .i64 a1,.int .i64 0,.int .i64 0,.int .i64 0] 117)) HB0.out.size)
   have hlt2:=(HQ.out.below hb).lt
   have HB2:=Lh hB2;have HQ2:=Lh hQ2;have HA2:=Lh hA2;have HR2:=Lh hR2
   clear hb hrow hB2 hQ2 hA2 hR2
   go_wp2
   obtain⟨b9,hb9⟩:∃ b,w2.heap.size=b:=⟨_,rfl⟩
   rw[hb9] at HA2 hlt2
   simp only[hb9]
   clear HB0 HQ
   go_loopw [10] (fun _ wr=>∃ (k:Nat) (j:Int) (out:List It) (g cap:Nat),Hid (PrB wr b9 (.slice (some ⟨g,0,none⟩) out.length cap) j 0 0 0∧PrB wr w.heap.size (.slice none 0 0) 0 0 0 0∧wr.ownsRow w.heap.size 87 9 (.slice (some ⟨g,0,none⟩) out.length cap) out.length (itFlat out)∧Below w.heap.size w wr∧
    rowsP T one wAnd 16 i=rowP T one wAnd 16 k j out∧1≤j∧j≤T.length∧(T.length:Int) < j+k∧(out.length:Int)≤j∧0 < out.length)) (fun _ wr=>T.length+1 - posOf wr b9)
   case atStart=>exact⟨T.length+1,a1,o1,g1,cap1,HA2.out,HQ2.out,HR2.out,HB2.out,HPR.out,by omega,by omega,by omega,by omega,hf1⟩
   case round=>
    clear HB2 HQ2 HA2 HR2 hg1 hf1 HPR HE1
    obtain⟨k,j,out,g,cap,HALL⟩:=hrel
    obtain⟨hA,hQ,hR,hBw,hPR,hj1,hjT,hjk,hoj,hop⟩:=HALL.out
    have HA:=Lh hA;have HQ:=Lh hQ;have HR:=Lh hR;have HB:=Lh hBw;have HPR:=Lh hPR;have HOP:=Lh hop
    have HOL:=Lh (show out.length≤1000000 by omega)
    have HOJ:=Lh hoj
    have hpos:Hid (posOf wr b9=j.toNat):=by unfold Hid posOf;rw[hA.facts.2.1]
    obtain⟨d0,d1,d2,d3,d4⟩:=hA.facts
    clear hA hQ hR hBw hPR hop HALL hoj
    obtain⟨q,hq⟩:∃ q,isTk T j 2 wAnd=q:=⟨_,rfl⟩
    have HQT:=Lh hq
    clear hq
    go_wp2_with fail
    refine(rcis_any (HTK.out _ HB.out) j 2 ⟨#[97,110,100]⟩).mono ?_
    rw[show isTk T j 2 ⟨#[97,110,100]⟩ = q from HQT.out]
    rintro e wb ⟨rfl,hb⟩
    have HAb:=Lh (HA.out.below hb);have HQb:=Lh (HQ.out.below hb);have HRb:=Lh (owns_below HR.out hb);have HBb:=Lh (HB.out.trans (hb.mono HB.out.size))
    have hbs:=hb.size
    clear hb d0 d1 d2 d3 d4 HA HQ HR HB
    obtain⟨d0,d1,d2,d3,d4⟩:=HAb.out.facts
    have hlb9:=HAb.out.lt
    cases q
    · have HROW:Hid (rowsP T one wAnd 16 i=.ok out j):=by
       unfold Hid
       rw[HPR.out]
       cases k with
       | zero=>rfl
       | succ k=>rw[rowP,HQT.out];rfl
      obtain⟨c0,c1,c2,c3,c4⟩:=HQb.out.facts
      obtain⟨z0,z1,z2,z3,z4⟩:=HQb.out.free
      have hltq:=HQb.out.lt
      have HE:=Lh (HQb.out.stored (.slice (some ⟨g,0,none⟩) out.length cap) j 0 0 0).facts
      have HOWN:=Lh (HQb.out.row HRb.out (by decide) (.slice (some ⟨g,0,none⟩) out.length cap) j 0 0 0)
      go_wp2
      obtain⟨e0,e1,e2,e3,e4⟩:=HE.out
      refine bodyPost_ret (v:=.agg #[.slice (some ⟨g,0,none⟩) out.length cap,.int .i64 j,.int .i64 0,.int .i64 0,.int .i64 0]) (by simp[results,Tryz.results105,go_sem,e0,e1,e2,e3,e4]) rfl ?_
      exact RPost.good HROW.out rfl rfl HOWN.out (below_tok HBb.out (Nat.le_refl _) _ _ _ _ _)
    · have hin:=isTk_in HQT.out (by decide)
      obtain⟨k,rfl⟩:∃ k',k=k'+1:=⟨k - 1,by omega⟩
      cases hp2:one (j+1) with
      | bad er l c=>
        have HROW:Hid (rowsP T one wAnd 16 i=.bad er l c):=by unfold Hid;rw[HPR.out,rowP,HQT.out,if_pos rfl,hp2];rfl
        have HE2:=Lh hp2
        clear hp2
        go_wp2_with fail
        refine(HC.out _ (HTK.out _ HBb.out) (Nat.le_trans hB HBb.out.size) (j+1) (by omega) (by omega)).mono ?_
        rw[HE2.out]
        rintro e wc ⟨av,h0,rfl,hb⟩
        have H0:=Lh h0
        have ne: (er == 0)=false:=beq_eq_false_iff_ne.2 h0
        have ne2: (er !=0)=true:=by simp[bne,ne]
        have HBx:=Lh ((HBb.out.trans (hb.mono HBb.out.size)).alloc (Nat.le_trans HBb.out.size hb.size) (.cells #[.slice none 0 0,.int .i64 av,.int .i64 er,.int .i64 l,.int .i64 c] 117))
        have hq3:=(HQb.out.below hb).alloc (.cells #[.slice none 0 0,.int .i64 av,.int .i64 er,.int .i64 l,.int .i64 c] 117)
        have ha3:=(show PrB (wc.alloc (.cells #[.slice none 0 0,.int .i64 av,.int .i64 er,.int .i64 l,.int .i64 c] 117)) wc.heap.size (.slice none 0 0) av er l c from heap_alloc_new wc _)
        have m2:=ha3.facts.2.2.1
        clear hb h0 d0 d1 d2 d3 d4
        go_upto_if 36 with fail
        obtain⟨WW,hWW⟩:∃ W,wc.alloc (.cells #[.slice none 0 0,.int .i64 av,.int .i64 er,.int .i64 l,.int .i64 c] 117)=W:=⟨_,rfl⟩
        rw[hWW] at hq3 ha3 HBx ⊢
        clear hWW m2
        obtain⟨m0,m1,m2,m3,m4⟩:=ha3.facts
        obtain⟨c0,c1,c2,c3,c4⟩:=hq3.facts
        obtain⟨z0,z1,z2,z3,z4⟩:=hq3.free
        have hlt3:=hq3.lt
        have HE:=Lh (hq3.stored (.slice none 0 0) av er l c).facts
        clear hq3 ha3
        go_wp2
        obtain⟨e0,e1,e2,e3,e4⟩:=HE.out
        refine bodyPost_ret (v:=.agg #[.slice none 0 0,.int .i64 av,.int .i64 er,.int .i64 l,.int .i64 c]) (by simp[results,Tryz.results105,go_sem,e0,e1,e2,e3,e4]) rfl ?_
        exact RPost.fault (HROW.out) av H0.out rfl (below_tok HBx.out (Nat.le_refl _) _ _ _ _ _)
      | ok o2 a2=>
        have hg2:=HG.out _ _ _ hp2
        have HN2:=Lh (HFL.out _ _ _ hp2)
        have HL2:=Lh (show o2.length≤1000000 by omega)
        obtain⟨x,hx⟩:∃ x,tkAt T j=x:=⟨_,rfl⟩
        have HROW:Hid (rowsP T one wAnd 16 i=rowP T one wAnd 16 k a2 (out ++o2 ++ [⟨16,⟨#[]⟩,0,⟨#[]⟩,0,⟨#[]⟩,⟨#[]⟩,x.line,x.col⟩])):=by unfold Hid;rw[HPR.out,rowP,HQT.out,if_pos rfl,hp2,hx];rfl
        have HX:=Lh hx
        have hfx3:∀ w:World,(Instr.field 48 (.agg #[.int .i64 x.kind,.string x.text,.int .i64 x.num,.int .i64 x.line,.int .i64 x.col]) 3).run Tryz.prog w=.ok (.agg #[.int .i64 x.line,.int .i64 x.col]) w:=fun _=>by kernel_rfl
        have HE2:=Lh hp2
        clear hp2 hx
        go_wp2_with fail
        refine(HC.out _ (HTK.out _ HBb.out) (Nat.le_trans hB HBb.out.size) (j+1) (by omega) (by omega)).mono ?_
        rw[HE2.out]
        rintro e wc ⟨g2,cap2,rfl,hrow,hb⟩
        have HBc:=Lh ((HBb.out.trans (hb.mono HBb.out.size)).alloc (Nat.le_trans HBb.out.size hb.size) (.cells #[.slice (some ⟨g2,0,none⟩) o2.length cap2,.int .i64 a2,.int .i64 0,.int .i64 0,.int .i64 0] 117))
        have HQc:=Lh ((HQb.out.below hb).alloc (.cells #[.slice (some ⟨g2,0,none⟩) o2.length cap2,.int .i64 a2,.int .i64 0,.int .i64 0,.int .i64 0] 117))
        have HAc:=Lh ((HAb.out.below hb).alloc (.cells #[.slice (some ⟨g2,0,none⟩) o2.length cap2,.int .i64 a2,.int .i64 0,.int .i64 0,.int .i64 0] 117))
        have HCc:=Lh (show PrB (wc.alloc (.cells #[.slice (some ⟨g2,0,none⟩) o2.length cap2,.int .i64 a2,.int .i64 0,.int .i64 0,.int .i64 0] 117)) wc.heap.size (.slice (some ⟨g2,0,none⟩) o2.length cap2) a2 0 0 0 from heap_alloc_new wc _)
        have HRc:=Lh (owns_alloc (owns_below HRb.out hb) (.cells #[.slice (some ⟨g2,0,none⟩) o2.length cap2,.int .i64 a2,.int .i64 0,.int .i64 0,.int .i64 0] 117))
        have HRd:=Lh (owns_alloc hrow (.cells #[.slice (some ⟨g2,0,none⟩) o2.length cap2,.int .i64 a2,.int .i64 0,.int .i64 0,.int .i64 0] 117))
        have hl9c:=(HAb.out.below hb).lt
        have hlqc:=(HQb.out.below hb).lt
        have m2:=HCc.out.facts.2.2.1
        clear hb hrow d0 d1 d2 d3 d4
        go_upto_if 36 with fail
        obtain⟨WW,hWW⟩:∃ W,wc.alloc (.cells #[.slice (some ⟨g2,0,none⟩) o2.length cap2,.int .i64 a2,.int .i64 0,.int .i64 0,.int .i64 0] 117)=W:=⟨_,rfl⟩
        rw[hWW] at HBc HQc HAc HCc HRc HRd ⊢
        clear hWW m2
        go_wp2
        obtain⟨n0,n1,n2,n3,n4⟩:=HCc.out.drew.facts
        obtain⟨r0,r1,r2,r3,r4⟩:=HAc.out.drew.facts
        have hlW:=HCc.out.lt;have hlA:=HAc.out.lt;have hlQ:=HQc.out.lt
        have hsW:=HBc.out.size
        rw[ldA_is,ldT_is]
        first
        | (go_region_held3 (fun w'=>w'.cell? ⟨wc.heap.size,0,none⟩ = some (.slice (some ⟨g2,0,none⟩) o2.length cap2)∧w'.cell? ⟨wc.heap.size,1,none⟩ = some (.int .i64 a2)∧w'.cell? ⟨wc.heap.size,2,none⟩ = some (.int .i64 0)∧w'.cell? ⟨wc.heap.size,3,none⟩ = some (.int .i64 0)∧w'.cell? ⟨wc.heap.size,4,none⟩ = some (.int .i64 0))
            (first| (with_reducible exact⟨n0,n1,n2,n3,n4⟩)| (with_reducible exact⟨m0,m1,m2,m3,m4⟩)| (with_reducible exact⟨f0,f1,f2,f3,f4⟩)| (with_reducible exact⟨t0,t1,t2,t3,t4⟩)| (trace_state;fail))
            (first
              | (go_simp;go_at_call 91;(with_reducible refine(rctok_any (HTK.out _ HBc.out.drew) j).mono ?_)
                 rintro e w8 ⟨rfl,hb8⟩
                 rw[HX.out]
                 unfold tokV
                 have HB8:=Lh (HBc.out.drew.trans (hb8.mono HBc.out.drew.size))
                 have HQ8:=Lh (HQc.out.drew.below hb8)
                 have ha8:=HAc.out.drew.below hb8
                 have hc8:=HCc.out.drew.below hb8
                 obtain⟨s0,s1,s2,s3,s4⟩:=ha8.facts
                 obtain⟨m0,m1,m2,m3,m4⟩:=hc8.facts
                 have HA8:=Lh ha8;have HC8:=Lh hc8
                 have HR18:=Lh (owns_below HRc.out.drew hb8)
                 have HR28:=Lh (owns_below HRd.out.drew hb8)
                 have hl8:=HC8.out.lt
                 clear hb8 ha8 hc8)
              | (go_simp;go_at_call 107;have hal:=also_two HR18.out HR28.out HOP.out HN2.out HOL.out HL2.out j 0 0 0 a2 0 0 0 (⟨16,⟨#[]⟩,0,⟨#[]⟩,0,⟨#[]⟩,⟨#[]⟩,x.line,x.col⟩:It)
                 dsimp only at hal
                 (with_reducible refine Calls.mono hal ?_)
                 clear hal
                 rintro e w9 ⟨g9,cap9,rfl,hown9,hb9⟩
                 have HB9:=Lh (HB8.out.trans (hb9.mono HB8.out.size))
                 have hq9:=HQ8.out.below hb9
                 have ha9:=HA8.out.below hb9
                 have hc9:=HC8.out.below hb9
                 obtain⟨c0,c1,c2,c3,c4⟩:=ha9.facts
                 obtain⟨z0,z1,z2,z3,z4⟩:=ha9.free
                 have hlt9:=ha9.lt
                 obtain⟨f0,f1,f2,f3,f4⟩:=hc9.facts
                 obtain⟨t0,t1,t2,t3,t4⟩:=(((((hc9.over (k:=b9) (j:=0) (by omega) (.slice (some ⟨g9,0,none⟩) (out.length+o2.length+1) cap9)).over (k:=b9) (j:=1) (by omega) (.int .i64 a2)).over (k:=b9) (j:=2) (by omega) (.int .i64 0)).over (k:=b9) (j:=3) (by omega) (.int .i64 0)).over (k:=b9) (j:=4) (by omega) (.int .i64 0)).facts
                 have hsz9:=HB8.out.size
                 have HA9:=Lh (ha9.stored (.slice (some ⟨g9,0,none⟩) (out.length+o2.length+1) cap9) a2 0 0 0)
                 have HQ9:=Lh (((((hq9.over (k:=b9) (j:=0) (by omega) (.slice (some ⟨g9,0,none⟩) (out.length+o2.length+1) cap9)).over (k:=b9) (j:=1) (by omega) (.int .i64 a2)).over (k:=b9) (j:=2) (by omega) (.int .i64 0)).over (k:=b9) (j:=3) (by omega) (.int .i64 0)).over (k:=b9) (j:=4) (by omega) (.int .i64 0))
                 have HOWN:=Lh (ha9.row (owns_mono hown9 (show w.heap.size≤w8.heap.size by omega)) (by decide) (.slice (some ⟨g9,0,none⟩) (out.length+o2.length+1) cap9) a2 0 0 0)
                 clear hown9 hb9 ha9 hq9 hc9)))
        | fail
        all_goals
         go_wp2
         go_roundw
         case rel=>
          refine⟨k,a2,out ++o2 ++ [⟨16,⟨#[]⟩,0,⟨#[]⟩,0,⟨#[]⟩,⟨#[]⟩,x.line,x.col⟩],g9,cap9,?_⟩
          rw[show(out ++o2 ++ [(⟨16,⟨#[]⟩,0,⟨#[]⟩,0,⟨#[]⟩,⟨#[]⟩,x.line,x.col⟩:It)]).length=out.length+o2.length+1 by simp;omega]
          exact⟨HA9.out,HQ9.out,HOWN.out,below_tok HB9.out (by omega) _ _ _ _ _,HROW.out,by omega,by omega,by omega,by have:=HOJ.out;omega,by omega⟩
         case measure=>
          rw[posOf_is HA9.out,hpos.out];omega
end Go.Proofs.YthlofmnmacpogaaGreatDoor
