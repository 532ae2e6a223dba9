/- A part of a proof of DeclReadsProof. -/
import Derived.Test.YthlofmnmacpogaaGreatDoorRt24
import Derived.Deep.DeepCutAuto
set_option maxRecDepth 100000
set_option maxHeartbeats 40000000
namespace Go.Proofs.YthlofmnmacpogaaGreatDoor
open Go.RowKit
theorem ratom_no1 {w:World} {B:Nat} {lv:Value} {T:List Tk} (h:TkIn w B lv T) (hB:B≤w.heap.size) (i:Int) (prop:Bool)
 (hk:idxP trueL (tkAt T i).text= (-1)) (hj:idxP openL (tkAt T i).text= -1) :
 Calls Tryz.prog 144 #[lv,.int .i64 i,.bool prop] w (RPost w (badP T i 4)):=by
 obtain⟨x,hx⟩:∃ x,tkAt T i=x:=⟨_,rfl⟩
 rw[hx] at hk hj
 have HX:=Lh hx;have HK:=Lh hk;have HJ:=Lh hj
 have HTK:Hid (∀ W,Below w.heap.size w W→TkIn W B lv T):=fun W hW=>h.below (hW.mono hB)
 have HB0:=Lh ((Below.refl w.heap.size w).alloc (Nat.le_refl _) oB6)
 have HQ:=Lh (show PrB (w.alloc oB6) w.heap.size (.slice none 0 0) 0 0 0 0 from heap_alloc_new w _)
 have HP:Hid (badP T i 4=.bad 4 x.line x.col):=by unfold Hid badP;rw[hx]
 clear h hx hk hj
 go_enter Tryz.func144,Tryz.ntmps144
 go_wp2_with fail
 refine(rctok_any (HTK.out _ HB0.out) i).mono ?_
 rintro e w1 ⟨rfl,hb1⟩
 rw[HX.out]
 unfold tokV
 have hB2:=((HB0.out.trans (hb1.mono HB0.out.size)).alloc (Nat.le_trans HB0.out.size hb1.size) (tO x))
 have HB2:=Lh (hB2.alloc hB2.size oB2)
 have hq1:=HQ.out.below hb1
 have hl1:=hq1.lt
 have HQ2:=Lh ((hq1.alloc (tO x)).alloc oB2)
 have HT2:=Lh ((show TkB (w1.alloc (tO x)) w1.heap.size x from heap_alloc_new w1 _).alloc oB2)
 have HL2:=Lh (show TlB ((w1.alloc (tO x)).alloc oB2) (w1.heap.size+1) from heap_at_size _ _ _ (by simp))
 obtain⟨d0,d1,d2,d3,d4⟩:=HT2.out.facts
 clear hb1 hB2 hq1
 go_wp2_with fail
 refine(rcindex_any _ trueL x.text _ HL2.out.reads (by decide)).mono ?_
 rintro e w' ⟨rfl,rfl⟩
 rw[HK.out]
 have HB3:=Lh (HB2.out.alloc HB2.out.size oB7)
 have HQ3:=Lh (HQ2.out.alloc oB7)
 have ht3:=HT2.out.alloc oB7
 obtain⟨f0,f1,f2,f3,f4⟩:=ht3.facts
 have HL3:=Lh (show OlB (((w1.alloc (tO x)).alloc oB2).alloc oB7) (w1.heap.size+1+1) from heap_at_size _ _ _ (by simp))
 clear d0 d1 d2 d3 d4 ht3
 go_wp2_with fail
 refine(rcindex_any _ openL x.text _ HL3.out.reads (by decide)).mono ?_
 rintro e w' ⟨rfl,rfl⟩
 rw[HJ.out]
 obtain⟨W3,hW3⟩:∃ W,((w1.alloc (tO x)).alloc oB2).alloc oB7=W:=⟨_,rfl⟩
 rw[hW3] at HB3 HQ3 ⊢
 clear hW3 HB2 HQ2 HT2 HL2 HL3 f0 f1 f2 f3 f4
 go_wp2_with fail
 refine(rcbad_any (HTK.out _ HB3.out) (Nat.le_trans hB HB3.out.size) i 4).mono ?_
 rintro e w9 ⟨rfl,hb3⟩
 rw[HX.out]
 have HBx:=Lh (HB3.out.trans (hb3.mono HB3.out.size))
 have hq3:=HQ3.out.below hb3
 obtain⟨c0,c1,c2,c3,c4⟩:=hq3.facts
 obtain⟨z0,z1,z2,z3,z4⟩:=hq3.free
 have hlt3:=hq3.lt
 have HE:=Lh (hq3.stored (.slice none 0 0) 0 4 x.line x.col).facts
 clear hb3 hq3
 go_wp2
 obtain⟨e0,e1,e2,e3,e4⟩:=HE.out
 refine bodyPost_ret (v:=.agg #[.slice none 0 0,.int .i64 0,.int .i64 4,.int .i64 x.line,.int .i64 x.col]) (by simp[results,Tryz.results144,go_sem,e0,e1,e2,e3,e4]) rfl ?_
 exact RPost.fault HP.out 0 (by decide) rfl (below_tok HBx.out (Nat.le_refl _) _ _ _ _ _)
theorem ratom_no2 {w:World} {B:Nat} {lv:Value} {T:List Tk} (h:TkIn w B lv T) (hB:B≤w.heap.size) (i:Int) (prop:Bool)
 (hk:idxP trueL (tkAt T i).text=2) (hj:idxP openL (tkAt T i).text= -1) (hp:prop=false) :
 Calls Tryz.prog 144 #[lv,.int .i64 i,.bool prop] w (RPost w (badP T i 4)):=by
 subst hp
 obtain⟨x,hx⟩:∃ x,tkAt T i=x:=⟨_,rfl⟩
 rw[hx] at hk hj
 have HX:=Lh hx;have HK:=Lh hk;have HJ:=Lh hj
 have HTK:Hid (∀ W,Below w.heap.size w W→TkIn W B lv T):=fun W hW=>h.below (hW.mono hB)
 have HB0:=Lh ((Below.refl w.heap.size w).alloc (Nat.le_refl _) oB6)
 have HQ:=Lh (show PrB (w.alloc oB6) w.heap.size (.slice none 0 0) 0 0 0 0 from heap_alloc_new w _)
 have HP:Hid (badP T i 4=.bad 4 x.line x.col):=by unfold Hid badP;rw[hx]
 clear h hx hk hj
 go_enter Tryz.func144,Tryz.ntmps144
 go_wp2_with fail
 refine(rctok_any (HTK.out _ HB0.out) i).mono ?_
 rintro e w1 ⟨rfl,hb1⟩
 rw[HX.out]
 unfold tokV
 have hB2:=((HB0.out.trans (hb1.mono HB0.out.size)).alloc (Nat.le_trans HB0.out.size hb1.size) (tO x))
 have HB2:=Lh (hB2.alloc hB2.size oB2)
 have hq1:=HQ.out.below hb1
 have hl1:=hq1.lt
 have HQ2:=Lh ((hq1.alloc (tO x)).alloc oB2)
 have HT2:=Lh ((show TkB (w1.alloc (tO x)) w1.heap.size x from heap_alloc_new w1 _).alloc oB2)
 have HL2:=Lh (show TlB ((w1.alloc (tO x)).alloc oB2) (w1.heap.size+1) from heap_at_size _ _ _ (by simp))
 obtain⟨d0,d1,d2,d3,d4⟩:=HT2.out.facts
 clear hb1 hB2 hq1
 go_wp2_with fail
 refine(rcindex_any _ trueL x.text _ HL2.out.reads (by decide)).mono ?_
 rintro e w' ⟨rfl,rfl⟩
 rw[HK.out]
 have HB3:=Lh (HB2.out.alloc HB2.out.size oB7)
 have HQ3:=Lh (HQ2.out.alloc oB7)
 have ht3:=HT2.out.alloc oB7
 obtain⟨f0,f1,f2,f3,f4⟩:=ht3.facts
 have HL3:=Lh (show OlB (((w1.alloc (tO x)).alloc oB2).alloc oB7) (w1.heap.size+1+1) from heap_at_size _ _ _ (by simp))
 clear d0 d1 d2 d3 d4 ht3
 go_wp2_with fail
 refine(rcindex_any _ openL x.text _ HL3.out.reads (by decide)).mono ?_
 rintro e w' ⟨rfl,rfl⟩
 rw[HJ.out]
 obtain⟨W3,hW3⟩:∃ W,((w1.alloc (tO x)).alloc oB2).alloc oB7=W:=⟨_,rfl⟩
 rw[hW3] at HB3 HQ3 ⊢
 clear hW3 HB2 HQ2 HT2 HL2 HL3 f0 f1 f2 f3 f4
 go_wp2_with fail
 refine(rcbad_any (HTK.out _ HB3.out) (Nat.le_trans hB HB3.out.size) i 4).mono ?_
 rintro e w9 ⟨rfl,hb3⟩
 rw[HX.out]
 have HBx:=Lh (HB3.out.trans (hb3.mono HB3.out.size))
 have hq3:=HQ3.out.below hb3
 obtain⟨c0,c1,c2,c3,c4⟩:=hq3.facts
 obtain⟨z0,z1,z2,z3,z4⟩:=hq3.free
 have hlt3:=hq3.lt
 have HE:=Lh (hq3.stored (.slice none 0 0) 0 4 x.line x.col).facts
 clear hb3 hq3
 go_wp2
 obtain⟨e0,e1,e2,e3,e4⟩:=HE.out
 refine bodyPost_ret (v:=.agg #[.slice none 0 0,.int .i64 0,.int .i64 4,.int .i64 x.line,.int .i64 x.col]) (by simp[results,Tryz.results144,go_sem,e0,e1,e2,e3,e4]) rfl ?_
 exact RPost.fault HP.out 0 (by decide) rfl (below_tok HBx.out (Nat.le_refl _) _ _ _ _ _)
theorem ratom_no3 {w:World} {B:Nat} {lv:Value} {T:List Tk} (h:TkIn w B lv T) (hB:B≤w.heap.size) (i:Int) (prop:Bool)
 (hk:idxP trueL (tkAt T i).text=3) (hj:idxP openL (tkAt T i).text= -1) (hp:prop=false) :
 Calls Tryz.prog 144 #[lv,.int .i64 i,.bool prop] w (RPost w (badP T i 4)):=by
 subst hp
 obtain⟨x,hx⟩:∃ x,tkAt T i=x:=⟨_,rfl⟩
 rw[hx] at hk hj
 have HX:=Lh hx;have HK:=Lh hk;have HJ:=Lh hj
 have HTK:Hid (∀ W,Below w.heap.size w W→TkIn W B lv T):=fun W hW=>h.below (hW.mono hB)
 have HB0:=Lh ((Below.refl w.heap.size w).alloc (Nat.le_refl _) oB6)
 have HQ:=Lh (show PrB (w.alloc oB6) w.heap.size (.slice none 0 0) 0 0 0 0 from heap_alloc_new w _)
 have HP:Hid (badP T i 4=.bad 4 x.line x.col):=by unfold Hid badP;rw[hx]
 clear h hx hk hj
 go_enter Tryz.func144,Tryz.ntmps144
 go_wp2_with fail
 refine(rctok_any (HTK.out _ HB0.out) i).mono ?_
 rintro e w1 ⟨rfl,hb1⟩
 rw[HX.out]
 unfold tokV
 have hB2:=((HB0.out.trans (hb1.mono HB0.out.size)).alloc (Nat.le_trans HB0.out.size hb1.size) (tO x))
 have HB2:=Lh (hB2.alloc hB2.size oB2)
 have hq1:=HQ.out.below hb1
 have hl1:=hq1.lt
 have HQ2:=Lh ((hq1.alloc (tO x)).alloc oB2)
 have HT2:=Lh ((show TkB (w1.alloc (tO x)) w1.heap.size x from heap_alloc_new w1 _).alloc oB2)
 have HL2:=Lh (show TlB ((w1.alloc (tO x)).alloc oB2) (w1.heap.size+1) from heap_at_size _ _ _ (by simp))
 obtain⟨d0,d1,d2,d3,d4⟩:=HT2.out.facts
 clear hb1 hB2 hq1
 go_wp2_with fail
 refine(rcindex_any _ trueL x.text _ HL2.out.reads (by decide)).mono ?_
 rintro e w' ⟨rfl,rfl⟩
 rw[HK.out]
 have HB3:=Lh (HB2.out.alloc HB2.out.size oB7)
 have HQ3:=Lh (HQ2.out.alloc oB7)
 have ht3:=HT2.out.alloc oB7
 obtain⟨f0,f1,f2,f3,f4⟩:=ht3.facts
 have HL3:=Lh (show OlB (((w1.alloc (tO x)).alloc oB2).alloc oB7) (w1.heap.size+1+1) from heap_at_size _ _ _ (by simp))
 clear d0 d1 d2 d3 d4 ht3
 go_wp2_with fail
 refine(rcindex_any _ openL x.text _ HL3.out.reads (by decide)).mono ?_
 rintro e w' ⟨rfl,rfl⟩
 rw[HJ.out]
 obtain⟨W3,hW3⟩:∃ W,((w1.alloc (tO x)).alloc oB2).alloc oB7=W:=⟨_,rfl⟩
 rw[hW3] at HB3 HQ3 ⊢
 clear hW3 HB2 HQ2 HT2 HL2 HL3 f0 f1 f2 f3 f4
 go_wp2_with fail
 refine(rcbad_any (HTK.out _ HB3.out) (Nat.le_trans hB HB3.out.size) i 4).mono ?_
 rintro e w9 ⟨rfl,hb3⟩
 rw[HX.out]
 have HBx:=Lh (HB3.out.trans (hb3.mono HB3.out.size))
 have hq3:=HQ3.out.below hb3
 obtain⟨c0,c1,c2,c3,c4⟩:=hq3.facts
 obtain⟨z0,z1,z2,z3,z4⟩:=hq3.free
 have hlt3:=hq3.lt
 have HE:=Lh (hq3.stored (.slice none 0 0) 0 4 x.line x.col).facts
 clear hb3 hq3
 go_wp2
 obtain⟨e0,e1,e2,e3,e4⟩:=HE.out
 refine bodyPost_ret (v:=.agg #[.slice none 0 0,.int .i64 0,.int .i64 4,.int .i64 x.line,.int .i64 x.col]) (by simp[results,Tryz.results144,go_sem,e0,e1,e2,e3,e4]) rfl ?_
 exact RPost.fault HP.out 0 (by decide) rfl (below_tok HBx.out (Nat.le_refl _) _ _ _ _ _)
theorem ratom_no4 {w:World} {B:Nat} {lv:Value} {T:List Tk} (h:TkIn w B lv T) (hB:B≤w.heap.size) (i:Int) (prop:Bool)
 (hk:idxP trueL (tkAt T i).text= -1) (hj:idxP openL (tkAt T i).text=2) (hp:prop=false) :
 Calls Tryz.prog 144 #[lv,.int .i64 i,.bool prop] w (RPost w (badP T i 4)):=by
 subst hp
 obtain⟨x,hx⟩:∃ x,tkAt T i=x:=⟨_,rfl⟩
 rw[hx] at hk hj
 have HX:=Lh hx;have HK:=Lh hk;have HJ:=Lh hj
 have HTK:Hid (∀ W,Below w.heap.size w W→TkIn W B lv T):=fun W hW=>h.below (hW.mono hB)
 have HB0:=Lh ((Below.refl w.heap.size w).alloc (Nat.le_refl _) oB6)
 have HQ:=Lh (show PrB (w.alloc oB6) w.heap.size (.slice none 0 0) 0 0 0 0 from heap_alloc_new w _)
 have HP:Hid (badP T i 4=.bad 4 x.line x.col):=by unfold Hid badP;rw[hx]
 clear h hx hk hj
 go_enter Tryz.func144,Tryz.ntmps144
 go_wp2_with fail
 refine(rctok_any (HTK.out _ HB0.out) i).mono ?_
 rintro e w1 ⟨rfl,hb1⟩
 rw[HX.out]
 unfold tokV
 have hB2:=((HB0.out.trans (hb1.mono HB0.out.size)).alloc (Nat.le_trans HB0.out.size hb1.size) (tO x))
 have HB2:=Lh (hB2.alloc hB2.size oB2)
 have hq1:=HQ.out.below hb1
 have hl1:=hq1.lt
 have HQ2:=Lh ((hq1.alloc (tO x)).alloc oB2)
 have HT2:=Lh ((show TkB (w1.alloc (tO x)) w1.heap.size x from heap_alloc_new w1 _).alloc oB2)
 have HL2:=Lh (show TlB ((w1.alloc (tO x)).alloc oB2) (w1.heap.size+1) from heap_at_size _ _ _ (by simp))
 obtain⟨d0,d1,d2,d3,d4⟩:=HT2.out.facts
 clear hb1 hB2 hq1
 go_wp2_with fail
 refine(rcindex_any _ trueL x.text _ HL2.out.reads (by decide)).mono ?_
 rintro e w' ⟨rfl,rfl⟩
 rw[HK.out]
 have HB3:=Lh (HB2.out.alloc HB2.out.size oB7)
 have HQ3:=Lh (HQ2.out.alloc oB7)
 have ht3:=HT2.out.alloc oB7
 obtain⟨f0,f1,f2,f3,f4⟩:=ht3.facts
 have HL3:=Lh (show OlB (((w1.alloc (tO x)).alloc oB2).alloc oB7) (w1.heap.size+1+1) from heap_at_size _ _ _ (by simp))
 clear d0 d1 d2 d3 d4 ht3
 go_wp2_with fail
 refine(rcindex_any _ openL x.text _ HL3.out.reads (by decide)).mono ?_
 rintro e w' ⟨rfl,rfl⟩
 rw[HJ.out]
 obtain⟨W3,hW3⟩:∃ W,((w1.alloc (tO x)).alloc oB2).alloc oB7=W:=⟨_,rfl⟩
 rw[hW3] at HB3 HQ3 ⊢
 clear hW3 HB2 HQ2 HT2 HL2 HL3 f0 f1 f2 f3 f4
 go_wp2_with fail
 refine(rcbad_any (HTK.out _ HB3.out) (Nat.le_trans hB HB3.out.size) i 4).mono ?_
 rintro e w9 ⟨rfl,hb3⟩
 rw[HX.out]
 have HBx:=Lh (HB3.out.trans (hb3.mono HB3.out.size))
 have hq3:=HQ3.out.below hb3
 obtain⟨c0,c1,c2,c3,c4⟩:=hq3.facts
 obtain⟨z0,z1,z2,z3,z4⟩:=hq3.free
 have hlt3:=hq3.lt
 have HE:=Lh (hq3.stored (.slice none 0 0) 0 4 x.line x.col).facts
 clear hb3 hq3
 go_wp2
 obtain⟨e0,e1,e2,e3,e4⟩:=HE.out
 refine bodyPost_ret (v:=.agg #[.slice none 0 0,.int .i64 0,.int .i64 4,.int .i64 x.line,.int .i64 x.col]) (by simp[results,Tryz.results144,go_sem,e0,e1,e2,e3,e4]) rfl ?_
 exact RPost.fault HP.out 0 (by decide) rfl (below_tok HBx.out (Nat.le_refl _) _ _ _ _ _)
theorem ratom_no5 {w:World} {B:Nat} {lv:Value} {T:List Tk} (h:TkIn w B lv T) (hB:B≤w.heap.size) (i:Int) (prop:Bool)
 (hk:idxP trueL (tkAt T i).text= -1) (hj:idxP openL (tkAt T i).text=3) (hp:prop=false) :
 Calls Tryz.prog 144 #[lv,.int .i64 i,.bool prop] w (RPost w (badP T i 4)):=by
 subst hp
 obtain⟨x,hx⟩:∃ x,tkAt T i=x:=⟨_,rfl⟩
 rw[hx] at hk hj
 have HX:=Lh hx;have HK:=Lh hk;have HJ:=Lh hj
 have HTK:Hid (∀ W,Below w.heap.size w W→TkIn W B lv T):=fun W hW=>h.below (hW.mono hB)
 have HB0:=Lh ((Below.refl w.heap.size w).alloc (Nat.le_refl _) oB6)
 have HQ:=Lh (show PrB (w.alloc oB6) w.heap.size (.slice none 0 0) 0 0 0 0 from heap_alloc_new w _)
 have HP:Hid (badP T i 4=.bad 4 x.line x.col):=by unfold Hid badP;rw[hx]
 clear h hx hk hj
 go_enter Tryz.func144,Tryz.ntmps144
 go_wp2_with fail
 refine(rctok_any (HTK.out _ HB0.out) i).mono ?_
 rintro e w1 ⟨rfl,hb1⟩
 rw[HX.out]
 unfold tokV
 have hB2:=((HB0.out.trans (hb1.mono HB0.out.size)).alloc (Nat.le_trans HB0.out.size hb1.size) (tO x))
 have HB2:=Lh (hB2.alloc hB2.size oB2)
 have hq1:=HQ.out.below hb1
 have hl1:=hq1.lt
 have HQ2:=Lh ((hq1.alloc (tO x)).alloc oB2)
 have HT2:=Lh ((show TkB (w1.alloc (tO x)) w1.heap.size x from heap_alloc_new w1 _).alloc oB2)
 have HL2:=Lh (show TlB ((w1.alloc (tO x)).alloc oB2) (w1.heap.size+1) from heap_at_size _ _ _ (by simp))
 obtain⟨d0,d1,d2,d3,d4⟩:=HT2.out.facts
 clear hb1 hB2 hq1
 go_wp2_with fail
 refine(rcindex_any _ trueL x.text _ HL2.out.reads (by decide)).mono ?_
 rintro e w' ⟨rfl,rfl⟩
 rw[HK.out]
 have HB3:=Lh (HB2.out.alloc HB2.out.size oB7)
 have HQ3:=Lh (HQ2.out.alloc oB7)
 have ht3:=HT2.out.alloc oB7
 obtain⟨f0,f1,f2,f3,f4⟩:=ht3.facts
 have HL3:=Lh (show OlB (((w1.alloc (tO x)).alloc oB2).alloc oB7) (w1.heap.size+1+1) from heap_at_size _ _ _ (by simp))
 clear d0 d1 d2 d3 d4 ht3
 go_wp2_with fail
 refine(rcindex_any _ openL x.text _ HL3.out.reads (by decide)).mono ?_
 rintro e w' ⟨rfl,rfl⟩
 rw[HJ.out]
 obtain⟨W3,hW3⟩:∃ W,((w1.alloc (tO x)).alloc oB2).alloc oB7=W:=⟨_,rfl⟩
 rw[hW3] at HB3 HQ3 ⊢
 clear hW3 HB2 HQ2 HT2 HL2 HL3 f0 f1 f2 f3 f4
 go_wp2_with fail
 refine(rcbad_any (HTK.out _ HB3.out) (Nat.le_trans hB HB3.out.size) i 4).mono ?_
 rintro e w9 ⟨rfl,hb3⟩
 rw[HX.out]
 have HBx:=Lh (HB3.out.trans (hb3.mono HB3.out.size))
 have hq3:=HQ3.out.below hb3
 obtain⟨c0,c1,c2,c3,c4⟩:=hq3.facts
 obtain⟨z0,z1,z2,z3,z4⟩:=hq3.free
 have hlt3:=hq3.lt
 have HE:=Lh (hq3.stored (.slice none 0 0) 0 4 x.line x.col).facts
 clear hb3 hq3
 go_wp2
 obtain⟨e0,e1,e2,e3,e4⟩:=HE.out
 refine bodyPost_ret (v:=.agg #[.slice none 0 0,.int .i64 0,.int .i64 4,.int .i64 x.line,.int .i64 x.col]) (by simp[results,Tryz.results144,go_sem,e0,e1,e2,e3,e4]) rfl ?_
 exact RPost.fault HP.out 0 (by decide) rfl (below_tok HBx.out (Nat.le_refl _) _ _ _ _ _)
theorem ratom_open {w:World} {B:Nat} {lv:Value} {T:List Tk} (h:TkIn w B lv T) (hB:B≤w.heap.size) (i:Int) (hlo:-9223372036854775808≤i) (hhi:i≤1000000) (prop:Bool)
 (hk:idxP trueL (tkAt T i).text= -1) (hj:idxP openL (tkAt T i).text=0) :
 Calls Tryz.prog 144 #[lv,.int .i64 i,.bool prop] w (RPost w (namedP T i 9)):=by
 obtain⟨y,hy⟩:∃ y,tkAt T (i+1)=y:=⟨_,rfl⟩
 have HY:=Lh hy
 have HP0:Hid (namedP T i 9=if y.kind=1 then .ok [⟨9,⟨#[]⟩,0,⟨#[]⟩,0,y.text,⟨#[]⟩,y.line,y.col⟩] (i+2) else .bad 4 y.line y.col):=by unfold Hid namedP badP;rw[hy]
 clear hy
 obtain⟨x,hx⟩:∃ x,tkAt T i=x:=⟨_,rfl⟩
 rw[hx] at hk hj
 have HX:=Lh hx;have HK:=Lh hk;have HJ:=Lh hj
 have HTK:Hid (∀ W,Below w.heap.size w W→TkIn W B lv T):=fun W hW=>h.below (hW.mono hB)
 have HB0:=Lh ((Below.refl w.heap.size w).alloc (Nat.le_refl _) oB6)
 have HQ:=Lh (show PrB (w.alloc oB6) w.heap.size (.slice none 0 0) 0 0 0 0 from heap_alloc_new w _)
 clear h hx hk hj
 go_enter Tryz.func144,Tryz.ntmps144
 go_wp2_with fail
 refine(rctok_any (HTK.out _ HB0.out) i).mono ?_
 rintro e w1 ⟨rfl,hb1⟩
 rw[HX.out]
 unfold tokV
 have hB2:=((HB0.out.trans (hb1.mono HB0.out.size)).alloc (Nat.le_trans HB0.out.size hb1.size) (tO x))
 have HB2:=Lh (hB2.alloc hB2.size oB2)
 have hq1:=HQ.out.below hb1
 have hl1:=hq1.lt
 have HQ2:=Lh ((hq1.alloc (tO x)).alloc oB2)
 have HT2:=Lh ((show TkB (w1.alloc (tO x)) w1.heap.size x from heap_alloc_new w1 _).alloc oB2)
 have HL2:=Lh (show TlB ((w1.alloc (tO x)).alloc oB2) (w1.heap.size+1) from heap_at_size _ _ _ (by simp))
 obtain⟨d0,d1,d2,d3,d4⟩:=HT2.out.facts
 clear hb1 hB2 hq1
 go_wp2_with fail
 refine(rcindex_any _ trueL x.text _ HL2.out.reads (by decide)).mono ?_
 rintro e w' ⟨rfl,rfl⟩
 rw[HK.out]
 have HB3:=Lh (HB2.out.alloc HB2.out.size oB7)
 have HQ3:=Lh (HQ2.out.alloc oB7)
 have ht3:=HT2.out.alloc oB7
 obtain⟨f0,f1,f2,f3,f4⟩:=ht3.facts
 have HL3:=Lh (show OlB (((w1.alloc (tO x)).alloc oB2).alloc oB7) (w1.heap.size+1+1) from heap_at_size _ _ _ (by simp))
 clear d0 d1 d2 d3 d4 ht3
 go_wp2_with fail
 refine(rcindex_any _ openL x.text _ HL3.out.reads (by decide)).mono ?_
 rintro e w' ⟨rfl,rfl⟩
 rw[HJ.out]
 obtain⟨W3,hW3⟩:∃ W,((w1.alloc (tO x)).alloc oB2).alloc oB7=W:=⟨_,rfl⟩
 rw[hW3] at HB3 HQ3 ⊢
 clear hW3 HB2 HQ2 HT2 HL2 HL3 f0 f1 f2 f3 f4
 go_wp2_with fail
 refine(rctok_any (HTK.out _ HB3.out) (i+1)).mono ?_
 rintro e w4 ⟨rfl,hb4⟩
 rw[HY.out]
 unfold tokV
 have HB4:=Lh ((HB3.out.trans (hb4.mono HB3.out.size)).alloc (Nat.le_trans HB3.out.size hb4.size) (tO y))
 have HQ4:=Lh ((HQ3.out.below hb4).alloc (tO y))
 have HT4:=Lh (show TkB (w4.alloc (tO y)) w4.heap.size y from heap_alloc_new w4 _)
 have hl4:=(HQ3.out.below hb4).lt
 clear hb4
 obtain⟨d0,d1,d2,d3,d4⟩:=HT4.out.facts
 by_cases hyk:y.kind=1
 · have HP:Hid (namedP T i 9=.ok [⟨9,⟨#[]⟩,0,⟨#[]⟩,0,y.text,⟨#[]⟩,y.line,y.col⟩] (i+2)):=by unfold Hid;rw[HP0.out,if_pos hyk]
   have yd: (y.kind == 1)=true:=by rw[beq_iff_eq];exact hyk
   have yd2: (y.kind !=1)=false:=by simp[bne,yd]
   clear hyk HP0
   go_upto_region 13 with fail
   obtain⟨W4,hW4⟩:∃ W,w4.alloc (tO y)=W:=⟨_,rfl⟩
   rw[hW4] at HB4 HQ4 HT4 ⊢
   clear hW4 d0 d1 d2 d3 d4
   obtain⟨d0,d1,d2,d3,d4⟩:=HT4.out.facts
   obtain⟨c0,c1,c2,c3,c4⟩:=HQ4.out.facts
   obtain⟨z0,z1,z2,z3,z4⟩:=HQ4.out.free
   have hlt9:=HQ4.out.lt
   have hq9:=HQ4.out.stored (.slice (some ⟨W4.heap.size,0,none⟩) 1 1) (i+2) 0 0 0
   have hb9:=below_tok HB4.out (Nat.le_refl _) (.slice (some ⟨W4.heap.size,0,none⟩) 1 1) (.int .i64 (i+2)) (.int .i64 0) (.int .i64 0) (.int .i64 0)
   have HE:=Lh (hq9.alloc (.cells #[.int .i64 9,.string ⟨#[]⟩,.int .i64 0,.string ⟨#[]⟩,.int .i64 0,.string y.text,.string ⟨#[]⟩,.int .i64 y.line,.int .i64 y.col] 87)).facts
   have HBE:=Lh (hb9.alloc hb9.size (.cells #[.int .i64 9,.string ⟨#[]⟩,.int .i64 0,.string ⟨#[]⟩,.int .i64 0,.string y.text,.string ⟨#[]⟩,.int .i64 y.line,.int .i64 y.col] 87))
   have hown:=World.ownsRow_lit (e:=87) (size:=9) (((((W4.setCell ⟨w.heap.size,0,none⟩ (.slice (some ⟨W4.heap.size,0,none⟩) 1 1)).setCell ⟨w.heap.size,1,none⟩ (.int .i64 (i+2))).setCell ⟨w.heap.size,2,none⟩ (.int .i64 0)).setCell ⟨w.heap.size,3,none⟩ (.int .i64 0)).setCell ⟨w.heap.size,4,none⟩ (.int .i64 0)) (#[.int .i64 9,.string ⟨#[]⟩,.int .i64 0,.string ⟨#[]⟩,.int .i64 0,.string y.text,.string ⟨#[]⟩,.int .i64 y.line,.int .i64 y.col]) 1 (Nat.le_refl _) (by decide) rfl
   simp only[World.size_setCell] at hown
   have HOWN:=Lh (owns_mono hown (show w.heap.size≤W4.heap.size by omega))
   clear hown hq9 hb9
   have hw9:IntKind.i64.wrap (i+2)=i+2:=IntWalk.i64_in _ ⟨by omega,by omega⟩
   go_wp2
   obtain⟨e0,e1,e2,e3,e4⟩:=HE.out
   refine bodyPost_ret (v:=.agg #[.slice (some ⟨W4.heap.size,0,none⟩) 1 1,.int .i64 (i+2),.int .i64 0,.int .i64 0,.int .i64 0]) (by simp[results,Tryz.results144,go_sem,e0,e1,e2,e3,e4]) rfl ?_
   rw[HP.out]
   exact⟨W4.heap.size,1,rfl,HOWN.out,HBE.out⟩
 · have HP:Hid (namedP T i 9=.bad 4 y.line y.col):=by unfold Hid;rw[HP0.out,if_neg hyk]
   have yd: (y.kind == 1)=false:=beq_eq_false_iff_ne.2 hyk
   have yd2: (y.kind !=1)=true:=by simp[bne,yd]
   clear hyk HP0
   go_wp2_with fail
   refine(rcbad_any (HTK.out _ HB4.out) (Nat.le_trans hB HB4.out.size) (i+1) 4).mono ?_
   rintro e w9 ⟨rfl,hb3⟩
   rw[HY.out]
   have HBx:=Lh (HB4.out.trans (hb3.mono HB4.out.size))
   have hq3:=HQ4.out.below hb3
   obtain⟨c0,c1,c2,c3,c4⟩:=hq3.facts
   obtain⟨z0,z1,z2,z3,z4⟩:=hq3.free
   have hlt3:=hq3.lt
   have HE:=Lh (hq3.stored (.slice none 0 0) 0 4 y.line y.col).facts
   clear hb3 hq3
   go_wp2
   obtain⟨e0,e1,e2,e3,e4⟩:=HE.out
   refine bodyPost_ret (v:=.agg #[.slice none 0 0,.int .i64 0,.int .i64 4,.int .i64 y.line,.int .i64 y.col]) (by simp[results,Tryz.results144,go_sem,e0,e1,e2,e3,e4]) rfl ?_
   exact RPost.fault HP.out 0 (by decide) rfl (below_tok HBx.out (Nat.le_refl _) _ _ _ _ _)
theorem ratom_done {w:World} {B:Nat} {lv:Value} {T:List Tk} (h:TkIn w B lv T) (hB:B≤w.heap.size) (i:Int) (hlo:-9223372036854775808≤i) (hhi:i≤1000000) (prop:Bool)
 (hk:idxP trueL (tkAt T i).text= -1) (hj:idxP openL (tkAt T i).text=1) :
 Calls Tryz.prog 144 #[lv,.int .i64 i,.bool prop] w (RPost w (namedP T i 10)):=by
 obtain⟨y,hy⟩:∃ y,tkAt T (i+1)=y:=⟨_,rfl⟩
 have HY:=Lh hy
 have HP0:Hid (namedP T i 10=if y.kind=1 then .ok [⟨10,⟨#[]⟩,0,⟨#[]⟩,0,y.text,⟨#[]⟩,y.line,y.col⟩] (i+2) else .bad 4 y.line y.col):=by unfold Hid namedP badP;rw[hy]
 clear hy
 obtain⟨x,hx⟩:∃ x,tkAt T i=x:=⟨_,rfl⟩
 rw[hx] at hk hj
 have HX:=Lh hx;have HK:=Lh hk;have HJ:=Lh hj
 have HTK:Hid (∀ W,Below w.heap.size w W→TkIn W B lv T):=fun W hW=>h.below (hW.mono hB)
 have HB0:=Lh ((Below.refl w.heap.size w).alloc (Nat.le_refl _) oB6)
 have HQ:=Lh (show PrB (w.alloc oB6) w.heap.size (.slice none 0 0) 0 0 0 0 from heap_alloc_new w _)
 clear h hx hk hj
 go_enter Tryz.func144,Tryz.ntmps144
 go_wp2_with fail
 refine(rctok_any (HTK.out _ HB0.out) i).mono ?_
 rintro e w1 ⟨rfl,hb1⟩
 rw[HX.out]
 unfold tokV
 have hB2:=((HB0.out.trans (hb1.mono HB0.out.size)).alloc (Nat.le_trans HB0.out.size hb1.size) (tO x))
 have HB2:=Lh (hB2.alloc hB2.size oB2)
 have hq1:=HQ.out.below hb1
 have hl1:=hq1.lt
 have HQ2:=Lh ((hq1.alloc (tO x)).alloc oB2)
 have HT2:=Lh ((show TkB (w1.alloc (tO x)) w1.heap.size x from heap_alloc_new w1 _).alloc oB2)
 have HL2:=Lh (show TlB ((w1.alloc (tO x)).alloc oB2) (w1.heap.size+1) from heap_at_size _ _ _ (by simp))
 obtain⟨d0,d1,d2,d3,d4⟩:=HT2.out.facts
 clear hb1 hB2 hq1
 go_wp2_with fail
 refine(rcindex_any _ trueL x.text _ HL2.out.reads (by decide)).mono ?_
 rintro e w' ⟨rfl,rfl⟩
 rw[HK.out]
 have HB3:=Lh (HB2.out.alloc HB2.out.size oB7)
 have HQ3:=Lh (HQ2.out.alloc oB7)
 have ht3:=HT2.out.alloc oB7
 obtain⟨f0,f1,f2,f3,f4⟩:=ht3.facts
 have HL3:=Lh (show OlB (((w1.alloc (tO x)).alloc oB2).alloc oB7) (w1.heap.size+1+1) from heap_at_size _ _ _ (by simp))
 clear d0 d1 d2 d3 d4 ht3
 go_wp2_with fail
 refine(rcindex_any _ openL x.text _ HL3.out.reads (by decide)).mono ?_
 rintro e w' ⟨rfl,rfl⟩
 rw[HJ.out]
 obtain⟨W3,hW3⟩:∃ W,((w1.alloc (tO x)).alloc oB2).alloc oB7=W:=⟨_,rfl⟩
 rw[hW3] at HB3 HQ3 ⊢
 clear hW3 HB2 HQ2 HT2 HL2 HL3 f0 f1 f2 f3 f4
 go_wp2_with fail
 refine(rctok_any (HTK.out _ HB3.out) (i+1)).mono ?_
 rintro e w4 ⟨rfl,hb4⟩
 rw[HY.out]
 unfold tokV
 have HB4:=Lh ((HB3.out.trans (hb4.mono HB3.out.size)).alloc (Nat.le_trans HB3.out.size hb4.size) (tO y))
 have HQ4:=Lh ((HQ3.out.below hb4).alloc (tO y))
 have HT4:=Lh (show TkB (w4.alloc (tO y)) w4.heap.size y from heap_alloc_new w4 _)
 have hl4:=(HQ3.out.below hb4).lt
 clear hb4
 obtain⟨d0,d1,d2,d3,d4⟩:=HT4.out.facts
 by_cases hyk:y.kind=1
 · have HP:Hid (namedP T i 10=.ok [⟨10,⟨#[]⟩,0,⟨#[]⟩,0,y.text,⟨#[]⟩,y.line,y.col⟩] (i+2)):=by unfold Hid;rw[HP0.out,if_pos hyk]
   have yd: (y.kind == 1)=true:=by rw[beq_iff_eq];exact hyk
   have yd2: (y.kind !=1)=false:=by simp[bne,yd]
   clear hyk HP0
   go_upto_region 13 with fail
   obtain⟨W4,hW4⟩:∃ W,w4.alloc (tO y)=W:=⟨_,rfl⟩
   rw[hW4] at HB4 HQ4 HT4 ⊢
   clear hW4 d0 d1 d2 d3 d4
   obtain⟨d0,d1,d2,d3,d4⟩:=HT4.out.facts
   obtain⟨c0,c1,c2,c3,c4⟩:=HQ4.out.facts
   obtain⟨z0,z1,z2,z3,z4⟩:=HQ4.out.free
   have hlt9:=HQ4.out.lt
   have hq9:=HQ4.out.stored (.slice (some ⟨W4.heap.size,0,none⟩) 1 1) (i+2) 0 0 0
   have hb9:=below_tok HB4.out (Nat.le_refl _) (.slice (some ⟨W4.heap.size,0,none⟩) 1 1) (.int .i64 (i+2)) (.int .i64 0) (.int .i64 0) (.int .i64 0)
   have HE:=Lh (hq9.alloc (.cells #[.int .i64 10,.string ⟨#[]⟩,.int .i64 0,.string ⟨#[]⟩,.int .i64 0,.string y.text,.string ⟨#[]⟩,.int .i64 y.line,.int .i64 y.col] 87)).facts
   have HBE:=Lh (hb9.alloc hb9.size (.cells #[.int .i64 10,.string ⟨#[]⟩,.int .i64 0,.string ⟨#[]⟩,.int .i64 0,.string y.text,.string ⟨#[]⟩,.int .i64 y.line,.int .i64 y.col] 87))
   have hown:=World.ownsRow_lit (e:=87) (size:=9) (((((W4.setCell ⟨w.heap.size,0,none⟩ (.slice (some ⟨W4.heap.size,0,none⟩) 1 1)).setCell ⟨w.heap.size,1,none⟩ (.int .i64 (i+2))).setCell ⟨w.heap.size,2,none⟩ (.int .i64 0)).setCell ⟨w.heap.size,3,none⟩ (.int .i64 0)).setCell ⟨w.heap.size,4,none⟩ (.int .i64 0)) (#[.int .i64 10,.string ⟨#[]⟩,.int .i64 0,.string ⟨#[]⟩,.int .i64 0,.string y.text,.string ⟨#[]⟩,.int .i64 y.line,.int .i64 y.col]) 1 (Nat.le_refl _) (by decide) rfl
   simp only[World.size_setCell] at hown
   have HOWN:=Lh (owns_mono hown (show w.heap.size≤W4.heap.size by omega))
   clear hown hq9 hb9
   have hw9:IntKind.i64.wrap (i+2)=i+2:=IntWalk.i64_in _ ⟨by omega,by omega⟩
   go_wp2
   obtain⟨e0,e1,e2,e3,e4⟩:=HE.out
   refine bodyPost_ret (v:=.agg #[.slice (some ⟨W4.heap.size,0,none⟩) 1 1,.int .i64 (i+2),.int .i64 0,.int .i64 0,.int .i64 0]) (by simp[results,Tryz.results144,go_sem,e0,e1,e2,e3,e4]) rfl ?_
   rw[HP.out]
   exact⟨W4.heap.size,1,rfl,HOWN.out,HBE.out⟩
 · have HP:Hid (namedP T i 10=.bad 4 y.line y.col):=by unfold Hid;rw[HP0.out,if_neg hyk]
   have yd: (y.kind == 1)=false:=beq_eq_false_iff_ne.2 hyk
   have yd2: (y.kind !=1)=true:=by simp[bne,yd]
   clear hyk HP0
   go_wp2_with fail
   refine(rcbad_any (HTK.out _ HB4.out) (Nat.le_trans hB HB4.out.size) (i+1) 4).mono ?_
   rintro e w9 ⟨rfl,hb3⟩
   rw[HY.out]
   have HBx:=Lh (HB4.out.trans (hb3.mono HB4.out.size))
   have hq3:=HQ4.out.below hb3
   obtain⟨c0,c1,c2,c3,c4⟩:=hq3.facts
   obtain⟨z0,z1,z2,z3,z4⟩:=hq3.free
   have hlt3:=hq3.lt
   have HE:=Lh (hq3.stored (.slice none 0 0) 0 4 y.line y.col).facts
   clear hb3 hq3
   go_wp2
   obtain⟨e0,e1,e2,e3,e4⟩:=HE.out
   refine bodyPost_ret (v:=.agg #[.slice none 0 0,.int .i64 0,.int .i64 4,.int .i64 y.line,.int .i64 y.col]) (by simp[results,Tryz.results144,go_sem,e0,e1,e2,e3,e4]) rfl ?_
   exact RPost.fault HP.out 0 (by decide) rfl (below_tok HBx.out (Nat.le_refl _) _ _ _ _ _)
theorem ratom_can {w:World} {B:Nat} {lv:Value} {T:List Tk} (h:TkIn w B lv T) (hB:B≤w.heap.size) (i:Int) (hlo:-9223372036854775808≤i) (hhi:i≤1000000) (prop:Bool)
 (hk:idxP trueL (tkAt T i).text= -1) (hj:idxP openL (tkAt T i).text=2) (hp:prop=true) :
 Calls Tryz.prog 144 #[lv,.int .i64 i,.bool prop] w (RPost w (namedP T i 11)):=by
 subst hp
 obtain⟨y,hy⟩:∃ y,tkAt T (i+1)=y:=⟨_,rfl⟩
 have HY:=Lh hy
 have HP0:Hid (namedP T i 11=if y.kind=1 then .ok [⟨11,⟨#[]⟩,0,⟨#[]⟩,0,y.text,⟨#[]⟩,y.line,y.col⟩] (i+2) else .bad 4 y.line y.col):=by unfold Hid namedP badP;rw[hy]
 clear hy
 obtain⟨x,hx⟩:∃ x,tkAt T i=x:=⟨_,rfl⟩
 rw[hx] at hk hj
 have HX:=Lh hx;have HK:=Lh hk;have HJ:=Lh hj
 have HTK:Hid (∀ W,Below w.heap.size w W→TkIn W B lv T):=fun W hW=>h.below (hW.mono hB)
 have HB0:=Lh ((Below.refl w.heap.size w).alloc (Nat.le_refl _) oB6)
 have HQ:=Lh (show PrB (w.alloc oB6) w.heap.size (.slice none 0 0) 0 0 0 0 from heap_alloc_new w _)
 clear h hx hk hj
 go_enter Tryz.func144,Tryz.ntmps144
 go_wp2_with fail
 refine(rctok_any (HTK.out _ HB0.out) i).mono ?_
 rintro e w1 ⟨rfl,hb1⟩
 rw[HX.out]
 unfold tokV
 have hB2:=((HB0.out.trans (hb1.mono HB0.out.size)).alloc (Nat.le_trans HB0.out.size hb1.size) (tO x))
 have HB2:=Lh (hB2.alloc hB2.size oB2)
 have hq1:=HQ.out.below hb1
 have hl1:=hq1.lt
 have HQ2:=Lh ((hq1.alloc (tO x)).alloc oB2)
 have HT2:=Lh ((show TkB (w1.alloc (tO x)) w1.heap.size x from heap_alloc_new w1 _).alloc oB2)
 have HL2:=Lh (show TlB ((w1.alloc (tO x)).alloc oB2) (w1.heap.size+1) from heap_at_size _ _ _ (by simp))
 obtain⟨d0,d1,d2,d3,d4⟩:=HT2.out.facts
 clear hb1 hB2 hq1
 go_wp2_with fail
 refine(rcindex_any _ trueL x.text _ HL2.out.reads (by decide)).mono ?_
 rintro e w' ⟨rfl,rfl⟩
 rw[HK.out]
 have HB3:=Lh (HB2.out.alloc HB2.out.size oB7)
 have HQ3:=Lh (HQ2.out.alloc oB7)
 have ht3:=HT2.out.alloc oB7
 obtain⟨f0,f1,f2,f3,f4⟩:=ht3.facts
 have HL3:=Lh (show OlB (((w1.alloc (tO x)).alloc oB2).alloc oB7) (w1.heap.size+1+1) from heap_at_size _ _ _ (by simp))
 clear d0 d1 d2 d3 d4 ht3
 go_wp2_with fail
 refine(rcindex_any _ openL x.text _ HL3.out.reads (by decide)).mono ?_
 rintro e w' ⟨rfl,rfl⟩
 rw[HJ.out]
 obtain⟨W3,hW3⟩:∃ W,((w1.alloc (tO x)).alloc oB2).alloc oB7=W:=⟨_,rfl⟩
 rw[hW3] at HB3 HQ3 ⊢
 clear hW3 HB2 HQ2 HT2 HL2 HL3 f0 f1 f2 f3 f4
 go_wp2_with fail
 refine(rctok_any (HTK.out _ HB3.out) (i+1)).mono ?_
 rintro e w4 ⟨rfl,hb4⟩
 rw[HY.out]
 unfold tokV
 have HB4:=Lh ((HB3.out.trans (hb4.mono HB3.out.size)).alloc (Nat.le_trans HB3.out.size hb4.size) (tO y))
 have HQ4:=Lh ((HQ3.out.below hb4).alloc (tO y))
 have HT4:=Lh (show TkB (w4.alloc (tO y)) w4.heap.size y from heap_alloc_new w4 _)
 have hl4:=(HQ3.out.below hb4).lt
 clear hb4
 obtain⟨d0,d1,d2,d3,d4⟩:=HT4.out.facts
 by_cases hyk:y.kind=1
 · have HP:Hid (namedP T i 11=.ok [⟨11,⟨#[]⟩,0,⟨#[]⟩,0,y.text,⟨#[]⟩,y.line,y.col⟩] (i+2)):=by unfold Hid;rw[HP0.out,if_pos hyk]
   have yd: (y.kind == 1)=true:=by rw[beq_iff_eq];exact hyk
   have yd2: (y.kind !=1)=false:=by simp[bne,yd]
   clear hyk HP0
   go_upto_region 13 with fail
   obtain⟨W4,hW4⟩:∃ W,w4.alloc (tO y)=W:=⟨_,rfl⟩
   rw[hW4] at HB4 HQ4 HT4 ⊢
   clear hW4 d0 d1 d2 d3 d4
   obtain⟨d0,d1,d2,d3,d4⟩:=HT4.out.facts
   obtain⟨c0,c1,c2,c3,c4⟩:=HQ4.out.facts
   obtain⟨z0,z1,z2,z3,z4⟩:=HQ4.out.free
   have hlt9:=HQ4.out.lt
   have hq9:=HQ4.out.stored (.slice (some ⟨W4.heap.size,0,none⟩) 1 1) (i+2) 0 0 0
   have hb9:=below_tok HB4.out (Nat.le_refl _) (.slice (some ⟨W4.heap.size,0,none⟩) 1 1) (.int .i64 (i+2)) (.int .i64 0) (.int .i64 0) (.int .i64 0)
   have HE:=Lh (hq9.alloc (.cells #[.int .i64 11,.string ⟨#[]⟩,.int .i64 0,.string ⟨#[]⟩,.int .i64 0,.string y.text,.string ⟨#[]⟩,.int .i64 y.line,.int .i64 y.col] 87)).facts
   have HBE:=Lh (hb9.alloc hb9.size (.cells #[.int .i64 11,.string ⟨#[]⟩,.int .i64 0,.string ⟨#[]⟩,.int .i64 0,.string y.text,.string ⟨#[]⟩,.int .i64 y.line,.int .i64 y.col] 87))
   have hown:=World.ownsRow_lit (e:=87) (size:=9) (((((W4.setCell ⟨w.heap.size,0,none⟩ (.slice (some ⟨W4.heap.size,0,none⟩) 1 1)).setCell ⟨w.heap.size,1,none⟩ (.int .i64 (i+2))).setCell ⟨w.heap.size,2,none⟩ (.int .i64 0)).setCell ⟨w.heap.size,3,none⟩ (.int .i64 0)).setCell ⟨w.heap.size,4,none⟩ (.int .i64 0)) (#[.int .i64 11,.string ⟨#[]⟩,.int .i64 0,.string ⟨#[]⟩,.int .i64 0,.string y.text,.string ⟨#[]⟩,.int .i64 y.line,.int .i64 y.col]) 1 (Nat.le_refl _) (by decide) rfl
   simp only[World.size_setCell] at hown
   have HOWN:=Lh (owns_mono hown (show w.heap.size≤W4.heap.size by omega))
   clear hown hq9 hb9
   have hw9:IntKind.i64.wrap (i+2)=i+2:=IntWalk.i64_in _ ⟨by omega,by omega⟩
   go_wp2
   obtain⟨e0,e1,e2,e3,e4⟩:=HE.out
   refine bodyPost_ret (v:=.agg #[.slice (some ⟨W4.heap.size,0,none⟩) 1 1,.int .i64 (i+2),.int .i64 0,.int .i64 0,.int .i64 0]) (by simp[results,Tryz.results144,go_sem,e0,e1,e2,e3,e4]) rfl ?_
   rw[HP.out]
   exact⟨W4.heap.size,1,rfl,HOWN.out,HBE.out⟩
 · have HP:Hid (namedP T i 11=.bad 4 y.line y.col):=by unfold Hid;rw[HP0.out,if_neg hyk]
   have yd: (y.kind == 1)=false:=beq_eq_false_iff_ne.2 hyk
   have yd2: (y.kind !=1)=true:=by simp[bne,yd]
   clear hyk HP0
   go_wp2_with fail
   refine(rcbad_any (HTK.out _ HB4.out) (Nat.le_trans hB HB4.out.size) (i+1) 4).mono ?_
   rintro e w9 ⟨rfl,hb3⟩
   rw[HY.out]
   have HBx:=Lh (HB4.out.trans (hb3.mono HB4.out.size))
   have hq3:=HQ4.out.below hb3
   obtain⟨c0,c1,c2,c3,c4⟩:=hq3.facts
   obtain⟨z0,z1,z2,z3,z4⟩:=hq3.free
   have hlt3:=hq3.lt
   have HE:=Lh (hq3.stored (.slice none 0 0) 0 4 y.line y.col).facts
   clear hb3 hq3
   go_wp2
   obtain⟨e0,e1,e2,e3,e4⟩:=HE.out
   refine bodyPost_ret (v:=.agg #[.slice none 0 0,.int .i64 0,.int .i64 4,.int .i64 y.line,.int .i64 y.col]) (by simp[results,Tryz.results144,go_sem,e0,e1,e2,e3,e4]) rfl ?_
   exact RPost.fault HP.out 0 (by decide) rfl (below_tok HBx.out (Nat.le_refl _) _ _ _ _ _)
theorem ratom_did {w:World} {B:Nat} {lv:Value} {T:List Tk} (h:TkIn w B lv T) (hB:B≤w.heap.size) (i:Int) (hlo:-9223372036854775808≤i) (hhi:i≤1000000) (prop:Bool)
 (hk:idxP trueL (tkAt T i).text= -1) (hj:idxP openL (tkAt T i).text=3) (hp:prop=true) :
 Calls Tryz.prog 144 #[lv,.int .i64 i,.bool prop] w (RPost w (didP T i)):=by
 subst hp
 obtain⟨y,hy⟩:∃ y,tkAt T (i+1)=y:=⟨_,rfl⟩
 have HY:=Lh hy
 obtain⟨z,hz⟩:∃ z,tkAt T (i+2)=z:=⟨_,rfl⟩
 have HZ:=Lh hz
 have HP0:Hid (didP T i=if y.kind=1 then(if z.kind=1 then .ok [⟨12,⟨#[]⟩,0,⟨#[]⟩,0,z.text,y.text,y.line,y.col⟩] (i+3) else .bad 4 z.line z.col) else .bad 4 y.line y.col):=by unfold Hid didP badP;rw[hy,hz]
 clear hy hz
 obtain⟨x,hx⟩:∃ x,tkAt T i=x:=⟨_,rfl⟩
 rw[hx] at hk hj
 have HX:=Lh hx;have HK:=Lh hk;have HJ:=Lh hj
 have HTK:Hid (∀ W,Below w.heap.size w W→TkIn W B lv T):=fun W hW=>h.below (hW.mono hB)
 have HB0:=Lh ((Below.refl w.heap.size w).alloc (Nat.le_refl _) oB6)
 have HQ:=Lh (show PrB (w.alloc oB6) w.heap.size (.slice none 0 0) 0 0 0 0 from heap_alloc_new w _)
 clear h hx hk hj
 go_enter Tryz.func144,Tryz.ntmps144
 go_wp2_with fail
 refine(rctok_any (HTK.out _ HB0.out) i).mono ?_
 rintro e w1 ⟨rfl,hb1⟩
 rw[HX.out]
 unfold tokV
 have hB2:=((HB0.out.trans (hb1.mono HB0.out.size)).alloc (Nat.le_trans HB0.out.size hb1.size) (tO x))
 have HB2:=Lh (hB2.alloc hB2.size oB2)
 have hq1:=HQ.out.below hb1
 have hl1:=hq1.lt
 have HQ2:=Lh ((hq1.alloc (tO x)).alloc oB2)
 have HT2:=Lh ((show TkB (w1.alloc (tO x)) w1.heap.size x from heap_alloc_new w1 _).alloc oB2)
 have HL2:=Lh (show TlB ((w1.alloc (tO x)).alloc oB2) (w1.heap.size+1) from heap_at_size _ _ _ (by simp))
 obtain⟨d0,d1,d2,d3,d4⟩:=HT2.out.facts
 clear hb1 hB2 hq1
 go_wp2_with fail
 refine(rcindex_any _ trueL x.text _ HL2.out.reads (by decide)).mono ?_
 rintro e w' ⟨rfl,rfl⟩
 rw[HK.out]
 have HB3:=Lh (HB2.out.alloc HB2.out.size oB7)
 have HQ3:=Lh (HQ2.out.alloc oB7)
 have ht3:=HT2.out.alloc oB7
 obtain⟨f0,f1,f2,f3,f4⟩:=ht3.facts
 have HL3:=Lh (show OlB (((w1.alloc (tO x)).alloc oB2).alloc oB7) (w1.heap.size+1+1) from heap_at_size _ _ _ (by simp))
 clear d0 d1 d2 d3 d4 ht3
 go_wp2_with fail
 refine(rcindex_any _ openL x.text _ HL3.out.reads (by decide)).mono ?_
 rintro e w' ⟨rfl,rfl⟩
 rw[HJ.out]
 obtain⟨W3,hW3⟩:∃ W,((w1.alloc (tO x)).alloc oB2).alloc oB7=W:=⟨_,rfl⟩
 rw[hW3] at HB3 HQ3 ⊢
 clear hW3 HB2 HQ2 HT2 HL2 HL3 f0 f1 f2 f3 f4
 go_wp2_with fail
 refine(rctok_any (HTK.out _ HB3.out) (i+1)).mono ?_
 rintro e w4 ⟨rfl,hb4⟩
 rw[HY.out]
 unfold tokV
 have HB4:=Lh ((HB3.out.trans (hb4.mono HB3.out.size)).alloc (Nat.le_trans HB3.out.size hb4.size) (tO y))
 have HQ4:=Lh ((HQ3.out.below hb4).alloc (tO y))
 have HT4:=Lh (show TkB (w4.alloc (tO y)) w4.heap.size y from heap_alloc_new w4 _)
 have hl4:=(HQ3.out.below hb4).lt
 clear hb4
 by_cases hyk:y.kind=1
 · have yd: (y.kind == 1)=true:=by rw[beq_iff_eq];exact hyk
   have yd2: (y.kind !=1)=false:=by simp[bne,yd]
   replace hyk:=Lh hyk
   obtain⟨d0,d1,d2,d3,d4⟩:=HT4.out.facts
   go_wp2_with fail
   clear d0 d1 d2 d3 d4
   refine(rctok_any (HTK.out _ HB4.out) (i+2)).mono ?_
   rintro e w5 ⟨rfl,hb5⟩
   rw[HZ.out]
   unfold tokV
   have HB5:=Lh ((HB4.out.trans (hb5.mono HB4.out.size)).alloc (Nat.le_trans HB4.out.size hb5.size) (tO z))
   have HQ5:=Lh ((HQ4.out.below hb5).alloc (tO z))
   have HT5:=Lh ((HT4.out.below hb5 HT4.out.lt).alloc (tO z))
   have HU5:=Lh (show TkB (w5.alloc (tO z)) w5.heap.size z from heap_alloc_new w5 _)
   have hl5:=(HQ4.out.below hb5).lt
   clear hb5
   obtain⟨d0,d1,d2,d3,d4⟩:=HT5.out.facts
   obtain⟨g0,g1,g2,g3,g4⟩:=HU5.out.facts
   by_cases hzk:z.kind=1
   · have HP:Hid (didP T i=.ok [⟨12,⟨#[]⟩,0,⟨#[]⟩,0,z.text,y.text,y.line,y.col⟩] (i+3)):=by unfold Hid;rw[HP0.out,if_pos hyk.out,if_pos hzk]
     have zd: (z.kind == 1)=true:=by rw[beq_iff_eq];exact hzk
     have zd2: (z.kind !=1)=false:=by simp[bne,zd]
     clear hyk hzk HP0
     go_upto_region 17 with fail
     obtain⟨W5,hW5⟩:∃ W,w5.alloc (tO z)=W:=⟨_,rfl⟩
     rw[hW5] at HB5 HQ5 HT5 HU5 ⊢
     clear hW5 d0 d1 d2 d3 d4 g0 g1 g2 g3 g4
     obtain⟨d0,d1,d2,d3,d4⟩:=HT5.out.facts
     obtain⟨g0,g1,g2,g3,g4⟩:=HU5.out.facts
     obtain⟨c0,c1,c2,c3,c4⟩:=HQ5.out.facts
     obtain⟨z0,z1,z2,z3,z4⟩:=HQ5.out.free
     have hlt9:=HQ5.out.lt
     have hq9:=HQ5.out.stored (.slice (some ⟨W5.heap.size,0,none⟩) 1 1) (i+3) 0 0 0
     have hb9:=below_tok HB5.out (Nat.le_refl _) (.slice (some ⟨W5.heap.size,0,none⟩) 1 1) (.int .i64 (i+3)) (.int .i64 0) (.int .i64 0) (.int .i64 0)
     have HE:=Lh (hq9.alloc (.cells #[.int .i64 12,.string ⟨#[]⟩,.int .i64 0,.string ⟨#[]⟩,.int .i64 0,.string z.text,.string y.text,.int .i64 y.line,.int .i64 y.col] 87)).facts
     have HBE:=Lh (hb9.alloc hb9.size (.cells #[.int .i64 12,.string ⟨#[]⟩,.int .i64 0,.string ⟨#[]⟩,.int .i64 0,.string z.text,.string y.text,.int .i64 y.line,.int .i64 y.col] 87))
     have hown:=World.ownsRow_lit (e:=87) (size:=9) (((((W5.setCell ⟨w.heap.size,0,none⟩ (.slice (some ⟨W5.heap.size,0,none⟩) 1 1)).setCell ⟨w.heap.size,1,none⟩ (.int .i64 (i+3))).setCell ⟨w.heap.size,2,none⟩ (.int .i64 0)).setCell ⟨w.heap.size,3,none⟩ (.int .i64 0)).setCell ⟨w.heap.size,4,none⟩ (.int .i64 0)) (#[.int .i64 12,.string ⟨#[]⟩,.int .i64 0,.string ⟨#[]⟩,.int .i64 0,.string z.text,.string y.text,.int .i64 y.line,.int .i64 y.col]) 1 (Nat.le_refl _) (by decide) rfl
     simp only[World.size_setCell] at hown
     have HOWN:=Lh (owns_mono hown (show w.heap.size≤W5.heap.size by omega))
     clear hown hq9 hb9
     have hw9:IntKind.i64.wrap (i+3)=i+3:=IntWalk.i64_in _ ⟨by omega,by omega⟩
     go_wp2
     obtain⟨e0,e1,e2,e3,e4⟩:=HE.out
     refine bodyPost_ret (v:=.agg #[.slice (some ⟨W5.heap.size,0,none⟩) 1 1,.int .i64 (i+3),.int .i64 0,.int .i64 0,.int .i64 0]) (by simp[results,Tryz.results144,go_sem,e0,e1,e2,e3,e4]) rfl ?_
     rw[HP.out]
     exact⟨W5.heap.size,1,rfl,HOWN.out,HBE.out⟩
   · have HP:Hid (didP T i=.bad 4 z.line z.col):=by unfold Hid;rw[HP0.out,if_pos hyk.out,if_neg hzk]
     have zd: (z.kind == 1)=false:=beq_eq_false_iff_ne.2 hzk
     have zd2: (z.kind !=1)=true:=by simp[bne,zd]
     clear hyk hzk HP0
     go_wp2_with fail
     refine(rcbad_any (HTK.out _ HB5.out) (Nat.le_trans hB HB5.out.size) (i+2) 4).mono ?_
     rintro e w9 ⟨rfl,hb3⟩
     rw[HZ.out]
     have HBx:=Lh (HB5.out.trans (hb3.mono HB5.out.size))
     have hq3:=HQ5.out.below hb3
     obtain⟨c0,c1,c2,c3,c4⟩:=hq3.facts
     obtain⟨z0,z1,z2,z3,z4⟩:=hq3.free
     have hlt3:=hq3.lt
     have HE:=Lh (hq3.stored (.slice none 0 0) 0 4 z.line z.col).facts
     clear hb3 hq3
     go_wp2
     obtain⟨e0,e1,e2,e3,e4⟩:=HE.out
     refine bodyPost_ret (v:=.agg #[.slice none 0 0,.int .i64 0,.int .i64 4,.int .i64 z.line,.int .i64 z.col]) (by simp[results,Tryz.results144,go_sem,e0,e1,e2,e3,e4]) rfl ?_
     exact RPost.fault HP.out 0 (by decide) rfl (below_tok HBx.out (Nat.le_refl _) _ _ _ _ _)
 · have HP:Hid (didP T i=.bad 4 y.line y.col):=by unfold Hid;rw[HP0.out,if_neg hyk]
   have yd: (y.kind == 1)=false:=beq_eq_false_iff_ne.2 hyk
   have yd2: (y.kind !=1)=true:=by simp[bne,yd]
   obtain⟨d0,d1,d2,d3,d4⟩:=HT4.out.facts
   clear hyk HP0
   go_wp2_with fail
   refine(rcbad_any (HTK.out _ HB4.out) (Nat.le_trans hB HB4.out.size) (i+1) 4).mono ?_
   rintro e w9 ⟨rfl,hb3⟩
   rw[HY.out]
   have HBx:=Lh (HB4.out.trans (hb3.mono HB4.out.size))
   have hq3:=HQ4.out.below hb3
   obtain⟨c0,c1,c2,c3,c4⟩:=hq3.facts
   obtain⟨z0,z1,z2,z3,z4⟩:=hq3.free
   have hlt3:=hq3.lt
   have HE:=Lh (hq3.stored (.slice none 0 0) 0 4 y.line y.col).facts
   clear hb3 hq3
   go_wp2
   obtain⟨e0,e1,e2,e3,e4⟩:=HE.out
   refine bodyPost_ret (v:=.agg #[.slice none 0 0,.int .i64 0,.int .i64 4,.int .i64 y.line,.int .i64 y.col]) (by simp[results,Tryz.results144,go_sem,e0,e1,e2,e3,e4]) rfl ?_
   exact RPost.fault HP.out 0 (by decide) rfl (below_tok HBx.out (Nat.le_refl _) _ _ _ _ _)
end Go.Proofs.YthlofmnmacpogaaGreatDoor
