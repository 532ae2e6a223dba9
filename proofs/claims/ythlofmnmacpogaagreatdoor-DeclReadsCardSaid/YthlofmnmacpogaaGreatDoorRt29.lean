/- A part of a proof of DeclReadsProof. -/
import Derived.Test.YthlofmnmacpogaaGreatDoorRt26
import Derived.Deep.DeepCutAuto
set_option maxRecDepth 100000
set_option maxHeartbeats 40000000
namespace Go.Proofs.YthlofmnmacpogaaGreatDoor
open Go.RowKit
theorem rsign_op3 (n:Nat) (hn:n≤24) {w:World} {B:Nat} {lv:Value} {T:List Tk} (h:TkIn w B lv T) (hB:B≤w.heap.size) (i:Int) (hlo:-9223372036854775808≤i) (hhi:i≤1000000) (d:Int) (hd:d=24 - (n:Int)) (hs:RSignOK n) (ho:isTk T i 4 sOpen=false) (hkind: (tkAt T i).kind=2) (hk:idxP notL (tkAt T i).text=3) :
 Calls Tryz.prog 124 #[lv,.int .i64 i,.int .i64 d,.bool true] w (RPost w (((bothP T true n).1 (i+1)).also fun o a=>.ok (o ++ [item 21 (tkAt T i)]) a)):=by
 have hTl:=h.len
 have HTK:Hid (∀ W,Below w.heap.size w W→TkIn W B lv T):=fun W hW=>h.below (hW.mono hB)
 have HB0:=Lh ((Below.refl w.heap.size w).alloc (Nat.le_refl _) oB6)
 have HQ:=Lh (show PrB (w.alloc oB6) w.heap.size (.slice none 0 0) 0 0 0 0 from heap_alloc_new w _)
 have hdd:d≤24:=by omega
 have hd0:0≤d:=by omega
 have HDN:=Lh (show d+1=25 - (n:Int) by omega)
 have HSO:=Lh hs
 obtain⟨sg,hsg⟩:∃ f,(bothP T true n).1=f:=⟨_,rfl⟩
 have HSM:=Lh hsg
 have HG:=both_good T true n |>.1
 have HFL:=both_full T true n |>.1
 rw[hsg] at HG HFL ⊢
 replace HG:=Lh HG;replace HFL:=Lh HFL
 have hgi:=tkAt_in (T:=T) (i:=i) (by omega)
 clear hsg hs
 have Hqo:Hid (isTk T i 4 sOpen=false):=ho
 obtain⟨x,hx⟩:∃ x,tkAt T i=x:=⟨_,rfl⟩
 rw[hx] at hkind
 have HX:=Lh hx
 have hfx3:∀ w:World,(Instr.field 48 (.agg #[.int .i64 x.kind,.string x.text,.int .i64 x.num,.int .i64 x.line,.int .i64 x.col]) 3).run Tryz.prog w=.ok (.agg #[.int .i64 x.line,.int .i64 x.col]) w:=fun _=>by kernel_rfl
 rw[hx]
 show Calls _ _ _ _ (RPost w ((sg (i+1)).also fun o a=>.ok (o ++ [⟨21,⟨#[]⟩,0,⟨#[]⟩,0,⟨#[]⟩,⟨#[]⟩,x.line,x.col⟩]) a))
 have yd: (x.kind == 2)=true:=by rw[beq_iff_eq];exact hkind
 have yd2: (x.kind !=2)=false:=by simp[bne,yd]
 rw[hx] at hk
 have HK:=Lh hk
 clear h ho hd hkind hx hk
 go_enter Tryz.func124,Tryz.ntmps124
 go_wp2_with fail
 refine(rcis_any (HTK.out _ HB0.out) i 4 ⟨#[40]⟩).mono ?_
 rw[show isTk T i 4 ⟨#[40]⟩ = false from Hqo.out]
 rintro e w1 ⟨rfl,hb⟩
 have HB1:=Lh (HB0.out.trans (hb.mono HB0.out.size))
 have HQ1:=Lh (HQ.out.below hb)
 clear hb
 go_wp2_with fail
 refine(rctok_any (HTK.out _ HB1.out) i).mono ?_
 rintro e w2 ⟨rfl,hb⟩
 rw[HX.out]
 unfold tokV
 have HB2:=Lh ((HB1.out.trans (hb.mono HB1.out.size)).alloc (Nat.le_trans HB1.out.size hb.size) (tO x))
 have HQ2:=Lh ((HQ1.out.below hb).alloc (tO x))
 have HT2:=Lh (show TkB (w2.alloc (tO x)) w2.heap.size x from heap_alloc_new w2 _)
 have hlt2:=(HQ1.out.below hb).lt
 obtain⟨d0,d1,d2,d3,d4⟩:=HT2.out.facts
 clear hb
 have HB3:=Lh (HB2.out.alloc HB2.out.size oB1)
 have HQ3:=Lh (HQ2.out.alloc oB1)
 have HT3:=Lh (HT2.out.alloc oB1)
 have hn3: (w2.alloc (tO x) |>.alloc oB1).heap[w2.heap.size+1]?=some oB10:=heap_at_size _ _ _ (by simp)
 have HN3:=Lh (show Reads (w2.alloc (tO x) |>.alloc oB1) (.slice (some ⟨w2.heap.size+1,0,none⟩) 9 9) (strs notL) from blk_reads hn3 9 (by decide))
 clear hn3
 obtain⟨f0,f1,f2,f3,f4⟩:=HT3.out.facts
 go_wp2_with fail
 refine(rcindex_any _ notL x.text _ HN3.out (by decide)).mono ?_
 rintro e w' ⟨rfl,rfl⟩
 rw[HK.out]
 have HB4:=Lh (HB3.out.alloc HB3.out.size oB8)
 have HQ4:=Lh (HQ3.out.alloc oB8)
 have HT4:=Lh (HT3.out.alloc oB8)
 have ho4: (w2.alloc (tO x) |>.alloc oB1 |>.alloc oB8).heap[w2.heap.size+1+1]?=some oB12:=heap_at_size _ _ _ (by simp)
 have HO4:=Lh ho4
 clear ho4
 go_wp2_with fail
 cases hp1:sg (i+1) with
 | bad er l c=>
   have HE1:=Lh hp1
   have HP:Hid ((((sg (i+1)).also fun o a=>.ok (o ++ [⟨21,⟨#[]⟩,0,⟨#[]⟩,0,⟨#[]⟩,⟨#[]⟩,x.line,x.col⟩]) a):PR)=.bad er l c):=also_of_bad hp1
   clear hp1
   refine(HSO.out _ B lv T (i+1) true (d+1) (HTK.out _ HB4.out) (Nat.le_trans hB HB4.out.size) (by omega) (by omega) HDN.out).mono ?_
   rw[HSM.out,HE1.out]
   rintro e w4 ⟨av,h0,rfl,hb⟩
   have H0:=Lh h0
   have ne: (er == 0)=false:=beq_eq_false_iff_ne.2 h0
   have ne2: (er !=0)=true:=by simp[bne,ne]
   have HBx:=Lh ((HB4.out.trans (hb.mono HB4.out.size)).alloc (Nat.le_trans HB4.out.size hb.size) (.cells #[.slice none 0 0,.int .i64 av,.int .i64 er,.int .i64 l,.int .i64 c] 117))
   have hq3:=(HQ4.out.below hb).alloc (.cells #[.slice none 0 0,.int .i64 av,.int .i64 er,.int .i64 l,.int .i64 c] 117)
   have ha3:=(show PrB (w4.alloc (.cells #[.slice none 0 0,.int .i64 av,.int .i64 er,.int .i64 l,.int .i64 c] 117)) w4.heap.size (.slice none 0 0) av er l c from heap_alloc_new w4 _)
   have m2:=ha3.facts.2.2.1
   clear hb h0 d0 d1 d2 d3 d4 f0 f1 f2 f3 f4
   go_upto_if 97 with fail
   obtain⟨WW,hWW⟩:∃ W,w4.alloc (.cells #[.slice none 0 0,.int .i64 av,.int .i64 er,.int .i64 l,.int .i64 c] 117)=W:=⟨_,rfl⟩
   rw[hWW] at hq3 ha3 HBx ⊢
   clear hWW m2
   obtain⟨m0,m1,m2,m3,m4⟩:=ha3.facts
   obtain⟨c0,c1,c2,c3,c4⟩:=hq3.facts
   obtain⟨z0,z1,z2,z3,z4⟩:=hq3.free
   have hlt3:=hq3.lt
   have HE:=Lh (hq3.stored (.slice none 0 0) av er l c).facts
   clear hq3 ha3
   go_wp2
   obtain⟨e0,e1,e2,e3,e4⟩:=HE.out
   refine bodyPost_ret (v:=.agg #[.slice none 0 0,.int .i64 av,.int .i64 er,.int .i64 l,.int .i64 c]) (by simp[results,Tryz.results124,go_sem,e0,e1,e2,e3,e4]) rfl ?_
   exact RPost.fault HP.out av H0.out rfl (below_tok HBx.out (Nat.le_refl _) _ _ _ _ _)
 | ok o1 a1=>
   have hg1:=HG.out _ _ _ hp1
   have HN1:=Lh (HFL.out _ _ _ hp1)
   have HL1:=Lh (show o1.length≤1000000 by omega)
   have HE1:=Lh hp1
   have HP:Hid ((((sg (i+1)).also fun o a=>.ok (o ++ [⟨21,⟨#[]⟩,0,⟨#[]⟩,0,⟨#[]⟩,⟨#[]⟩,x.line,x.col⟩]) a):PR)=.ok (o1 ++ [⟨21,⟨#[]⟩,0,⟨#[]⟩,0,⟨#[]⟩,⟨#[]⟩,x.line,x.col⟩]) a1):=also_of_ok hp1
   clear hp1
   refine(HSO.out _ B lv T (i+1) true (d+1) (HTK.out _ HB4.out) (Nat.le_trans hB HB4.out.size) (by omega) (by omega) HDN.out).mono ?_
   rw[HSM.out,HE1.out]
   rintro e w4 ⟨g1,cap1,rfl,hrow,hb⟩
   have HB5:=Lh ((HB4.out.trans (hb.mono HB4.out.size)).alloc (Nat.le_trans HB4.out.size hb.size) (.cells #[.slice (some ⟨g1,0,none⟩) o1.length cap1,.int .i64 a1,.int .i64 0,.int .i64 0,.int .i64 0] 117))
   have HQ5:=Lh ((HQ4.out.below hb).alloc (.cells #[.slice (some ⟨g1,0,none⟩) o1.length cap1,.int .i64 a1,.int .i64 0,.int .i64 0,.int .i64 0] 117))
   have HT5:=Lh ((HT4.out.below hb HT4.out.lt).alloc (.cells #[.slice (some ⟨g1,0,none⟩) o1.length cap1,.int .i64 a1,.int .i64 0,.int .i64 0,.int .i64 0] 117))
   have HA5:=Lh (show PrB (w4.alloc (.cells #[.slice (some ⟨g1,0,none⟩) o1.length cap1,.int .i64 a1,.int .i64 0,.int .i64 0,.int .i64 0] 117)) w4.heap.size (.slice (some ⟨g1,0,none⟩) o1.length cap1) a1 0 0 0 from heap_alloc_new w4 _)
   have HR5:=Lh (owns_alloc hrow (.cells #[.slice (some ⟨g1,0,none⟩) o1.length cap1,.int .i64 a1,.int .i64 0,.int .i64 0,.int .i64 0] 117))
   have hob: (w4.alloc (.cells #[.slice (some ⟨g1,0,none⟩) o1.length cap1,.int .i64 a1,.int .i64 0,.int .i64 0,.int .i64 0] 117)).heap[w2.heap.size+1+1]?=some oB12:=(Below.heap_alloc _ _ _ (Array.getElem?_eq_some_iff.1 ((hb.block _ (Array.getElem?_eq_some_iff.1 HO4.out).1).trans HO4.out)).1).trans ((hb.block _ (Array.getElem?_eq_some_iff.1 HO4.out).1).trans HO4.out)
   have HO5:=Lh hob
   have hlo4:=(Array.getElem?_eq_some_iff.1 ((hb.block _ (Array.getElem?_eq_some_iff.1 HO4.out).1).trans HO4.out)).1
   have hlq4:=(HQ4.out.below hb).lt
   have m2:=HA5.out.facts.2.2.1
   clear hb hrow hob d0 d1 d2 d3 d4 f0 f1 f2 f3 f4
   go_upto_if 97 with fail
   obtain⟨W5,hW5⟩:∃ W,w4.alloc (.cells #[.slice (some ⟨g1,0,none⟩) o1.length cap1,.int .i64 a1,.int .i64 0,.int .i64 0,.int .i64 0] 117)=W:=⟨_,rfl⟩
   rw[hW5] at HB5 HQ5 HT5 HA5 HR5 HO5 ⊢
   clear hW5 m2 HB0 HB1 HB2 HB3 HB4 HQ HQ1 HQ2 HQ3 HQ4 HT2 HT3 HT4 HO4 HN3
   have q5:W5.drew.cell? ⟨w2.heap.size+1+1,3,none⟩ = some (.int .i64 21):=by show W5.cell? _=_;simp[World.cell?,HO5.out]
   have hol:=(Array.getElem?_eq_some_iff.1 HO5.out).1
   go_wp2
   obtain⟨n0,n1,n2,n3,n4⟩:=HA5.out.drew.facts
   have n5:=q5
   obtain⟨_,_,_,n6,n7⟩:=HT5.out.drew.facts
   have hl5a:=HA5.out.lt;have hl5q:=HQ5.out.lt;have hl5t:=HT5.out.lt
   have hs5:=HB5.out.size
   first
   | (go_region_held3 (fun w'=>w'.cell? ⟨w4.heap.size,0,none⟩ = some (.slice (some ⟨g1,0,none⟩) o1.length cap1)∧w'.cell? ⟨w4.heap.size,1,none⟩ = some (.int .i64 a1)∧w'.cell? ⟨w4.heap.size,2,none⟩ = some (.int .i64 0)∧w'.cell? ⟨w4.heap.size,3,none⟩ = some (.int .i64 0)∧w'.cell? ⟨w4.heap.size,4,none⟩ = some (.int .i64 0)∧w'.cell? ⟨w2.heap.size+1+1,3,none⟩ = some (.int .i64 21)∧w'.cell? ⟨w2.heap.size,3,none⟩ = some (.int .i64 x.line)∧w'.cell? ⟨w2.heap.size,4,none⟩ = some (.int .i64 x.col))
       (first| (with_reducible exact⟨n0,n1,n2,n3,n4,n5,n6,n7⟩)| (with_reducible exact⟨f0,f1,f2,f3,f4,f5,f6,f7⟩)| (with_reducible exact⟨t0,t1,t2,t3,t4,t5,t6,t7⟩)| (trace_state;fail))
       (first
         | (go_simp;go_at_call 107;have hal:=also_nil HR5.out.drew HN1.out HL1.out 0 0 0 0 a1 0 0 0 (⟨21,⟨#[]⟩,0,⟨#[]⟩,0,⟨#[]⟩,⟨#[]⟩,x.line,x.col⟩:It)
            dsimp only at hal
            (with_reducible refine Calls.mono hal ?_)
            clear hal
            rintro e w9 ⟨g9,cap9,rfl,hown9,hb9⟩
            have HB9:=Lh (HB5.out.drew.trans (hb9.mono HB5.out.drew.size))
            have hq9:=HQ5.out.drew.below hb9
            obtain⟨c0,c1,c2,c3,c4⟩:=hq9.facts
            obtain⟨z0,z1,z2,z3,z4⟩:=hq9.free
            have hlt9:=hq9.lt
            have ha9:=HA5.out.drew.below hb9
            have ht9:=HT5.out.drew.below hb9 HT5.out.lt
            obtain⟨f0,f1,f2,f3,f4⟩:=ha9.facts
            obtain⟨_,_,_,f6,f7⟩:=ht9.facts
            have f5:w9.cell? ⟨w2.heap.size+1+1,3,none⟩ = some (.int .i64 21):=(hb9.cell (p:=⟨w2.heap.size+1+1,3,none⟩) hol).trans n5
            obtain⟨t0,t1,t2,t3,t4⟩:=(((((ha9.over (k:=w.heap.size) (j:=0) (by omega) (.slice (some ⟨g9,0,none⟩) (o1.length+1) cap9)).over (k:=w.heap.size) (j:=1) (by omega) (.int .i64 a1)).over (k:=w.heap.size) (j:=2) (by omega) (.int .i64 0)).over (k:=w.heap.size) (j:=3) (by omega) (.int .i64 0)).over (k:=w.heap.size) (j:=4) (by omega) (.int .i64 0)).facts
            obtain⟨_,_,_,t6,t7⟩:=(((((ht9.setOther (g:=w.heap.size) (j:=0) (by omega) (.slice (some ⟨g9,0,none⟩) (o1.length+1) cap9)).setOther (g:=w.heap.size) (j:=1) (by omega) (.int .i64 a1)).setOther (g:=w.heap.size) (j:=2) (by omega) (.int .i64 0)).setOther (g:=w.heap.size) (j:=3) (by omega) (.int .i64 0)).setOther (g:=w.heap.size) (j:=4) (by omega) (.int .i64 0)).facts
            have t5:=cell_tok (k:=w.heap.size) (.slice (some ⟨g9,0,none⟩) (o1.length+1) cap9) (.int .i64 a1) (.int .i64 0) (.int .i64 0) (.int .i64 0) (show w2.heap.size+1+1≠w.heap.size by omega) f5
            have HE:=Lh (hq9.stored (.slice (some ⟨g9,0,none⟩) (o1.length+1) cap9) a1 0 0 0).facts
            have HOWN:=Lh (hq9.row (owns_mono hown9 (show w.heap.size≤W5.heap.size by omega)) (by decide) (.slice (some ⟨g9,0,none⟩) (o1.length+1) cap9) a1 0 0 0)
            clear hown9 hb9 hq9 ha9 ht9)))
   | fail
   all_goals
    go_wp2
    obtain⟨e0,e1,e2,e3,e4⟩:=HE.out
    refine bodyPost_ret (v:=.agg #[.slice (some ⟨g9,0,none⟩) (o1.length+1) cap9,.int .i64 a1,.int .i64 0,.int .i64 0,.int .i64 0]) (by simp[results,Tryz.results124,go_sem,e0,e1,e2,e3,e4]) rfl ?_
    exact RPost.good HP.out (by simp) rfl HOWN.out (below_tok HB9.out (Nat.le_refl _) _ _ _ _ _)
theorem rsign_op4 (n:Nat) (hn:n≤24) {w:World} {B:Nat} {lv:Value} {T:List Tk} (h:TkIn w B lv T) (hB:B≤w.heap.size) (i:Int) (hlo:-9223372036854775808≤i) (hhi:i≤1000000) (d:Int) (hd:d=24 - (n:Int)) (hs:RSignOK n) (ho:isTk T i 4 sOpen=false) (hkind: (tkAt T i).kind=2) (hk:idxP notL (tkAt T i).text=4) :
 Calls Tryz.prog 124 #[lv,.int .i64 i,.int .i64 d,.bool true] w (RPost w (((bothP T true n).1 (i+1)).also fun o a=>.ok (o ++ [item 22 (tkAt T i)]) a)):=by
 have hTl:=h.len
 have HTK:Hid (∀ W,Below w.heap.size w W→TkIn W B lv T):=fun W hW=>h.below (hW.mono hB)
 have HB0:=Lh ((Below.refl w.heap.size w).alloc (Nat.le_refl _) oB6)
 have HQ:=Lh (show PrB (w.alloc oB6) w.heap.size (.slice none 0 0) 0 0 0 0 from heap_alloc_new w _)
 have hdd:d≤24:=by omega
 have hd0:0≤d:=by omega
 have HDN:=Lh (show d+1=25 - (n:Int) by omega)
 have HSO:=Lh hs
 obtain⟨sg,hsg⟩:∃ f,(bothP T true n).1=f:=⟨_,rfl⟩
 have HSM:=Lh hsg
 have HG:=both_good T true n |>.1
 have HFL:=both_full T true n |>.1
 rw[hsg] at HG HFL ⊢
 replace HG:=Lh HG;replace HFL:=Lh HFL
 have hgi:=tkAt_in (T:=T) (i:=i) (by omega)
 clear hsg hs
 have Hqo:Hid (isTk T i 4 sOpen=false):=ho
 obtain⟨x,hx⟩:∃ x,tkAt T i=x:=⟨_,rfl⟩
 rw[hx] at hkind
 have HX:=Lh hx
 have hfx3:∀ w:World,(Instr.field 48 (.agg #[.int .i64 x.kind,.string x.text,.int .i64 x.num,.int .i64 x.line,.int .i64 x.col]) 3).run Tryz.prog w=.ok (.agg #[.int .i64 x.line,.int .i64 x.col]) w:=fun _=>by kernel_rfl
 rw[hx]
 show Calls _ _ _ _ (RPost w ((sg (i+1)).also fun o a=>.ok (o ++ [⟨22,⟨#[]⟩,0,⟨#[]⟩,0,⟨#[]⟩,⟨#[]⟩,x.line,x.col⟩]) a))
 have yd: (x.kind == 2)=true:=by rw[beq_iff_eq];exact hkind
 have yd2: (x.kind !=2)=false:=by simp[bne,yd]
 rw[hx] at hk
 have HK:=Lh hk
 clear h ho hd hkind hx hk
 go_enter Tryz.func124,Tryz.ntmps124
 go_wp2_with fail
 refine(rcis_any (HTK.out _ HB0.out) i 4 ⟨#[40]⟩).mono ?_
 rw[show isTk T i 4 ⟨#[40]⟩ = false from Hqo.out]
 rintro e w1 ⟨rfl,hb⟩
 have HB1:=Lh (HB0.out.trans (hb.mono HB0.out.size))
 have HQ1:=Lh (HQ.out.below hb)
 clear hb
 go_wp2_with fail
 refine(rctok_any (HTK.out _ HB1.out) i).mono ?_
 rintro e w2 ⟨rfl,hb⟩
 rw[HX.out]
 unfold tokV
 have HB2:=Lh ((HB1.out.trans (hb.mono HB1.out.size)).alloc (Nat.le_trans HB1.out.size hb.size) (tO x))
 have HQ2:=Lh ((HQ1.out.below hb).alloc (tO x))
 have HT2:=Lh (show TkB (w2.alloc (tO x)) w2.heap.size x from heap_alloc_new w2 _)
 have hlt2:=(HQ1.out.below hb).lt
 obtain⟨d0,d1,d2,d3,d4⟩:=HT2.out.facts
 clear hb
 have HB3:=Lh (HB2.out.alloc HB2.out.size oB1)
 have HQ3:=Lh (HQ2.out.alloc oB1)
 have HT3:=Lh (HT2.out.alloc oB1)
 have hn3: (w2.alloc (tO x) |>.alloc oB1).heap[w2.heap.size+1]?=some oB10:=heap_at_size _ _ _ (by simp)
 have HN3:=Lh (show Reads (w2.alloc (tO x) |>.alloc oB1) (.slice (some ⟨w2.heap.size+1,0,none⟩) 9 9) (strs notL) from blk_reads hn3 9 (by decide))
 clear hn3
 obtain⟨f0,f1,f2,f3,f4⟩:=HT3.out.facts
 go_wp2_with fail
 refine(rcindex_any _ notL x.text _ HN3.out (by decide)).mono ?_
 rintro e w' ⟨rfl,rfl⟩
 rw[HK.out]
 have HB4:=Lh (HB3.out.alloc HB3.out.size oB8)
 have HQ4:=Lh (HQ3.out.alloc oB8)
 have HT4:=Lh (HT3.out.alloc oB8)
 have ho4: (w2.alloc (tO x) |>.alloc oB1 |>.alloc oB8).heap[w2.heap.size+1+1]?=some oB12:=heap_at_size _ _ _ (by simp)
 have HO4:=Lh ho4
 clear ho4
 go_wp2_with fail
 cases hp1:sg (i+1) with
 | bad er l c=>
   have HE1:=Lh hp1
   have HP:Hid ((((sg (i+1)).also fun o a=>.ok (o ++ [⟨22,⟨#[]⟩,0,⟨#[]⟩,0,⟨#[]⟩,⟨#[]⟩,x.line,x.col⟩]) a):PR)=.bad er l c):=also_of_bad hp1
   clear hp1
   refine(HSO.out _ B lv T (i+1) true (d+1) (HTK.out _ HB4.out) (Nat.le_trans hB HB4.out.size) (by omega) (by omega) HDN.out).mono ?_
   rw[HSM.out,HE1.out]
   rintro e w4 ⟨av,h0,rfl,hb⟩
   have H0:=Lh h0
   have ne: (er == 0)=false:=beq_eq_false_iff_ne.2 h0
   have ne2: (er !=0)=true:=by simp[bne,ne]
   have HBx:=Lh ((HB4.out.trans (hb.mono HB4.out.size)).alloc (Nat.le_trans HB4.out.size hb.size) (.cells #[.slice none 0 0,.int .i64 av,.int .i64 er,.int .i64 l,.int .i64 c] 117))
   have hq3:=(HQ4.out.below hb).alloc (.cells #[.slice none 0 0,.int .i64 av,.int .i64 er,.int .i64 l,.int .i64 c] 117)
   have ha3:=(show PrB (w4.alloc (.cells #[.slice none 0 0,.int .i64 av,.int .i64 er,.int .i64 l,.int .i64 c] 117)) w4.heap.size (.slice none 0 0) av er l c from heap_alloc_new w4 _)
   have m2:=ha3.facts.2.2.1
   clear hb h0 d0 d1 d2 d3 d4 f0 f1 f2 f3 f4
   go_upto_if 97 with fail
   obtain⟨WW,hWW⟩:∃ W,w4.alloc (.cells #[.slice none 0 0,.int .i64 av,.int .i64 er,.int .i64 l,.int .i64 c] 117)=W:=⟨_,rfl⟩
   rw[hWW] at hq3 ha3 HBx ⊢
   clear hWW m2
   obtain⟨m0,m1,m2,m3,m4⟩:=ha3.facts
   obtain⟨c0,c1,c2,c3,c4⟩:=hq3.facts
   obtain⟨z0,z1,z2,z3,z4⟩:=hq3.free
   have hlt3:=hq3.lt
   have HE:=Lh (hq3.stored (.slice none 0 0) av er l c).facts
   clear hq3 ha3
   go_wp2
   obtain⟨e0,e1,e2,e3,e4⟩:=HE.out
   refine bodyPost_ret (v:=.agg #[.slice none 0 0,.int .i64 av,.int .i64 er,.int .i64 l,.int .i64 c]) (by simp[results,Tryz.results124,go_sem,e0,e1,e2,e3,e4]) rfl ?_
   exact RPost.fault HP.out av H0.out rfl (below_tok HBx.out (Nat.le_refl _) _ _ _ _ _)
 | ok o1 a1=>
   have hg1:=HG.out _ _ _ hp1
   have HN1:=Lh (HFL.out _ _ _ hp1)
   have HL1:=Lh (show o1.length≤1000000 by omega)
   have HE1:=Lh hp1
   have HP:Hid ((((sg (i+1)).also fun o a=>.ok (o ++ [⟨22,⟨#[]⟩,0,⟨#[]⟩,0,⟨#[]⟩,⟨#[]⟩,x.line,x.col⟩]) a):PR)=.ok (o1 ++ [⟨22,⟨#[]⟩,0,⟨#[]⟩,0,⟨#[]⟩,⟨#[]⟩,x.line,x.col⟩]) a1):=also_of_ok hp1
   clear hp1
   refine(HSO.out _ B lv T (i+1) true (d+1) (HTK.out _ HB4.out) (Nat.le_trans hB HB4.out.size) (by omega) (by omega) HDN.out).mono ?_
   rw[HSM.out,HE1.out]
   rintro e w4 ⟨g1,cap1,rfl,hrow,hb⟩
   have HB5:=Lh ((HB4.out.trans (hb.mono HB4.out.size)).alloc (Nat.le_trans HB4.out.size hb.size) (.cells #[.slice (some ⟨g1,0,none⟩) o1.length cap1,.int .i64 a1,.int .i64 0,.int .i64 0,.int .i64 0] 117))
   have HQ5:=Lh ((HQ4.out.below hb).alloc (.cells #[.slice (some ⟨g1,0,none⟩) o1.length cap1,.int .i64 a1,.int .i64 0,.int .i64 0,.int .i64 0] 117))
   have HT5:=Lh ((HT4.out.below hb HT4.out.lt).alloc (.cells #[.slice (some ⟨g1,0,none⟩) o1.length cap1,.int .i64 a1,.int .i64 0,.int .i64 0,.int .i64 0] 117))
   have HA5:=Lh (show PrB (w4.alloc (.cells #[.slice (some ⟨g1,0,none⟩) o1.length cap1,.int .i64 a1,.int .i64 0,.int .i64 0,.int .i64 0] 117)) w4.heap.size (.slice (some ⟨g1,0,none⟩) o1.length cap1) a1 0 0 0 from heap_alloc_new w4 _)
   have HR5:=Lh (owns_alloc hrow (.cells #[.slice (some ⟨g1,0,none⟩) o1.length cap1,.int .i64 a1,.int .i64 0,.int .i64 0,.int .i64 0] 117))
   have hob: (w4.alloc (.cells #[.slice (some ⟨g1,0,none⟩) o1.length cap1,.int .i64 a1,.int .i64 0,.int .i64 0,.int .i64 0] 117)).heap[w2.heap.size+1+1]?=some oB12:=(Below.heap_alloc _ _ _ (Array.getElem?_eq_some_iff.1 ((hb.block _ (Array.getElem?_eq_some_iff.1 HO4.out).1).trans HO4.out)).1).trans ((hb.block _ (Array.getElem?_eq_some_iff.1 HO4.out).1).trans HO4.out)
   have HO5:=Lh hob
   have hlo4:=(Array.getElem?_eq_some_iff.1 ((hb.block _ (Array.getElem?_eq_some_iff.1 HO4.out).1).trans HO4.out)).1
   have hlq4:=(HQ4.out.below hb).lt
   have m2:=HA5.out.facts.2.2.1
   clear hb hrow hob d0 d1 d2 d3 d4 f0 f1 f2 f3 f4
   go_upto_if 97 with fail
   obtain⟨W5,hW5⟩:∃ W,w4.alloc (.cells #[.slice (some ⟨g1,0,none⟩) o1.length cap1,.int .i64 a1,.int .i64 0,.int .i64 0,.int .i64 0] 117)=W:=⟨_,rfl⟩
   rw[hW5] at HB5 HQ5 HT5 HA5 HR5 HO5 ⊢
   clear hW5 m2 HB0 HB1 HB2 HB3 HB4 HQ HQ1 HQ2 HQ3 HQ4 HT2 HT3 HT4 HO4 HN3
   have q5:W5.drew.cell? ⟨w2.heap.size+1+1,4,none⟩ = some (.int .i64 22):=by show W5.cell? _=_;simp[World.cell?,HO5.out]
   have hol:=(Array.getElem?_eq_some_iff.1 HO5.out).1
   go_wp2
   obtain⟨n0,n1,n2,n3,n4⟩:=HA5.out.drew.facts
   have n5:=q5
   obtain⟨_,_,_,n6,n7⟩:=HT5.out.drew.facts
   have hl5a:=HA5.out.lt;have hl5q:=HQ5.out.lt;have hl5t:=HT5.out.lt
   have hs5:=HB5.out.size
   first
   | (go_region_held3 (fun w'=>w'.cell? ⟨w4.heap.size,0,none⟩ = some (.slice (some ⟨g1,0,none⟩) o1.length cap1)∧w'.cell? ⟨w4.heap.size,1,none⟩ = some (.int .i64 a1)∧w'.cell? ⟨w4.heap.size,2,none⟩ = some (.int .i64 0)∧w'.cell? ⟨w4.heap.size,3,none⟩ = some (.int .i64 0)∧w'.cell? ⟨w4.heap.size,4,none⟩ = some (.int .i64 0)∧w'.cell? ⟨w2.heap.size+1+1,4,none⟩ = some (.int .i64 22)∧w'.cell? ⟨w2.heap.size,3,none⟩ = some (.int .i64 x.line)∧w'.cell? ⟨w2.heap.size,4,none⟩ = some (.int .i64 x.col))
       (first| (with_reducible exact⟨n0,n1,n2,n3,n4,n5,n6,n7⟩)| (with_reducible exact⟨f0,f1,f2,f3,f4,f5,f6,f7⟩)| (with_reducible exact⟨t0,t1,t2,t3,t4,t5,t6,t7⟩)| (trace_state;fail))
       (first
         | (go_simp;go_at_call 107;have hal:=also_nil HR5.out.drew HN1.out HL1.out 0 0 0 0 a1 0 0 0 (⟨22,⟨#[]⟩,0,⟨#[]⟩,0,⟨#[]⟩,⟨#[]⟩,x.line,x.col⟩:It)
            dsimp only at hal
            (with_reducible refine Calls.mono hal ?_)
            clear hal
            rintro e w9 ⟨g9,cap9,rfl,hown9,hb9⟩
            have HB9:=Lh (HB5.out.drew.trans (hb9.mono HB5.out.drew.size))
            have hq9:=HQ5.out.drew.below hb9
            obtain⟨c0,c1,c2,c3,c4⟩:=hq9.facts
            obtain⟨z0,z1,z2,z3,z4⟩:=hq9.free
            have hlt9:=hq9.lt
            have ha9:=HA5.out.drew.below hb9
            have ht9:=HT5.out.drew.below hb9 HT5.out.lt
            obtain⟨f0,f1,f2,f3,f4⟩:=ha9.facts
            obtain⟨_,_,_,f6,f7⟩:=ht9.facts
            have f5:w9.cell? ⟨w2.heap.size+1+1,4,none⟩ = some (.int .i64 22):=(hb9.cell (p:=⟨w2.heap.size+1+1,4,none⟩) hol).trans n5
            obtain⟨t0,t1,t2,t3,t4⟩:=(((((ha9.over (k:=w.heap.size) (j:=0) (by omega) (.slice (some ⟨g9,0,none⟩) (o1.length+1) cap9)).over (k:=w.heap.size) (j:=1) (by omega) (.int .i64 a1)).over (k:=w.heap.size) (j:=2) (by omega) (.int .i64 0)).over (k:=w.heap.size) (j:=3) (by omega) (.int .i64 0)).over (k:=w.heap.size) (j:=4) (by omega) (.int .i64 0)).facts
            obtain⟨_,_,_,t6,t7⟩:=(((((ht9.setOther (g:=w.heap.size) (j:=0) (by omega) (.slice (some ⟨g9,0,none⟩) (o1.length+1) cap9)).setOther (g:=w.heap.size) (j:=1) (by omega) (.int .i64 a1)).setOther (g:=w.heap.size) (j:=2) (by omega) (.int .i64 0)).setOther (g:=w.heap.size) (j:=3) (by omega) (.int .i64 0)).setOther (g:=w.heap.size) (j:=4) (by omega) (.int .i64 0)).facts
            have t5:=cell_tok (k:=w.heap.size) (.slice (some ⟨g9,0,none⟩) (o1.length+1) cap9) (.int .i64 a1) (.int .i64 0) (.int .i64 0) (.int .i64 0) (show w2.heap.size+1+1≠w.heap.size by omega) f5
            have HE:=Lh (hq9.stored (.slice (some ⟨g9,0,none⟩) (o1.length+1) cap9) a1 0 0 0).facts
            have HOWN:=Lh (hq9.row (owns_mono hown9 (show w.heap.size≤W5.heap.size by omega)) (by decide) (.slice (some ⟨g9,0,none⟩) (o1.length+1) cap9) a1 0 0 0)
            clear hown9 hb9 hq9 ha9 ht9)))
   | fail
   all_goals
    go_wp2
    obtain⟨e0,e1,e2,e3,e4⟩:=HE.out
    refine bodyPost_ret (v:=.agg #[.slice (some ⟨g9,0,none⟩) (o1.length+1) cap9,.int .i64 a1,.int .i64 0,.int .i64 0,.int .i64 0]) (by simp[results,Tryz.results124,go_sem,e0,e1,e2,e3,e4]) rfl ?_
    exact RPost.good HP.out (by simp) rfl HOWN.out (below_tok HB9.out (Nat.le_refl _) _ _ _ _ _)
theorem rsign_op5 (n:Nat) (hn:n≤24) {w:World} {B:Nat} {lv:Value} {T:List Tk} (h:TkIn w B lv T) (hB:B≤w.heap.size) (i:Int) (hlo:-9223372036854775808≤i) (hhi:i≤1000000) (d:Int) (hd:d=24 - (n:Int)) (hs:RSignOK n) (ho:isTk T i 4 sOpen=false) (hkind: (tkAt T i).kind=2) (hk:idxP notL (tkAt T i).text=5) :
 Calls Tryz.prog 124 #[lv,.int .i64 i,.int .i64 d,.bool true] w (RPost w (((bothP T true n).1 (i+1)).also fun o a=>.ok (o ++ [item 23 (tkAt T i)]) a)):=by
 have hTl:=h.len
 have HTK:Hid (∀ W,Below w.heap.size w W→TkIn W B lv T):=fun W hW=>h.below (hW.mono hB)
 have HB0:=Lh ((Below.refl w.heap.size w).alloc (Nat.le_refl _) oB6)
 have HQ:=Lh (show PrB (w.alloc oB6) w.heap.size (.slice none 0 0) 0 0 0 0 from heap_alloc_new w _)
 have hdd:d≤24:=by omega
 have hd0:0≤d:=by omega
 have HDN:=Lh (show d+1=25 - (n:Int) by omega)
 have HSO:=Lh hs
 obtain⟨sg,hsg⟩:∃ f,(bothP T true n).1=f:=⟨_,rfl⟩
 have HSM:=Lh hsg
 have HG:=both_good T true n |>.1
 have HFL:=both_full T true n |>.1
 rw[hsg] at HG HFL ⊢
 replace HG:=Lh HG;replace HFL:=Lh HFL
 have hgi:=tkAt_in (T:=T) (i:=i) (by omega)
 clear hsg hs
 have Hqo:Hid (isTk T i 4 sOpen=false):=ho
 obtain⟨x,hx⟩:∃ x,tkAt T i=x:=⟨_,rfl⟩
 rw[hx] at hkind
 have HX:=Lh hx
 have hfx3:∀ w:World,(Instr.field 48 (.agg #[.int .i64 x.kind,.string x.text,.int .i64 x.num,.int .i64 x.line,.int .i64 x.col]) 3).run Tryz.prog w=.ok (.agg #[.int .i64 x.line,.int .i64 x.col]) w:=fun _=>by kernel_rfl
 rw[hx]
 show Calls _ _ _ _ (RPost w ((sg (i+1)).also fun o a=>.ok (o ++ [⟨23,⟨#[]⟩,0,⟨#[]⟩,0,⟨#[]⟩,⟨#[]⟩,x.line,x.col⟩]) a))
 have yd: (x.kind == 2)=true:=by rw[beq_iff_eq];exact hkind
 have yd2: (x.kind !=2)=false:=by simp[bne,yd]
 rw[hx] at hk
 have HK:=Lh hk
 clear h ho hd hkind hx hk
 go_enter Tryz.func124,Tryz.ntmps124
 go_wp2_with fail
 refine(rcis_any (HTK.out _ HB0.out) i 4 ⟨#[40]⟩).mono ?_
 rw[show isTk T i 4 ⟨#[40]⟩ = false from Hqo.out]
 rintro e w1 ⟨rfl,hb⟩
 have HB1:=Lh (HB0.out.trans (hb.mono HB0.out.size))
 have HQ1:=Lh (HQ.out.below hb)
 clear hb
 go_wp2_with fail
 refine(rctok_any (HTK.out _ HB1.out) i).mono ?_
 rintro e w2 ⟨rfl,hb⟩
 rw[HX.out]
 unfold tokV
 have HB2:=Lh ((HB1.out.trans (hb.mono HB1.out.size)).alloc (Nat.le_trans HB1.out.size hb.size) (tO x))
 have HQ2:=Lh ((HQ1.out.below hb).alloc (tO x))
 have HT2:=Lh (show TkB (w2.alloc (tO x)) w2.heap.size x from heap_alloc_new w2 _)
 have hlt2:=(HQ1.out.below hb).lt
 obtain⟨d0,d1,d2,d3,d4⟩:=HT2.out.facts
 clear hb
 have HB3:=Lh (HB2.out.alloc HB2.out.size oB1)
 have HQ3:=Lh (HQ2.out.alloc oB1)
 have HT3:=Lh (HT2.out.alloc oB1)
 have hn3: (w2.alloc (tO x) |>.alloc oB1).heap[w2.heap.size+1]?=some oB10:=heap_at_size _ _ _ (by simp)
 have HN3:=Lh (show Reads (w2.alloc (tO x) |>.alloc oB1) (.slice (some ⟨w2.heap.size+1,0,none⟩) 9 9) (strs notL) from blk_reads hn3 9 (by decide))
 clear hn3
 obtain⟨f0,f1,f2,f3,f4⟩:=HT3.out.facts
 go_wp2_with fail
 refine(rcindex_any _ notL x.text _ HN3.out (by decide)).mono ?_
 rintro e w' ⟨rfl,rfl⟩
 rw[HK.out]
 have HB4:=Lh (HB3.out.alloc HB3.out.size oB8)
 have HQ4:=Lh (HQ3.out.alloc oB8)
 have HT4:=Lh (HT3.out.alloc oB8)
 have ho4: (w2.alloc (tO x) |>.alloc oB1 |>.alloc oB8).heap[w2.heap.size+1+1]?=some oB12:=heap_at_size _ _ _ (by simp)
 have HO4:=Lh ho4
 clear ho4
 go_wp2_with fail
 cases hp1:sg (i+1) with
 | bad er l c=>
   have HE1:=Lh hp1
   have HP:Hid ((((sg (i+1)).also fun o a=>.ok (o ++ [⟨23,⟨#[]⟩,0,⟨#[]⟩,0,⟨#[]⟩,⟨#[]⟩,x.line,x.col⟩]) a):PR)=.bad er l c):=also_of_bad hp1
   clear hp1
   refine(HSO.out _ B lv T (i+1) true (d+1) (HTK.out _ HB4.out) (Nat.le_trans hB HB4.out.size) (by omega) (by omega) HDN.out).mono ?_
   rw[HSM.out,HE1.out]
   rintro e w4 ⟨av,h0,rfl,hb⟩
   have H0:=Lh h0
   have ne: (er == 0)=false:=beq_eq_false_iff_ne.2 h0
   have ne2: (er !=0)=true:=by simp[bne,ne]
   have HBx:=Lh ((HB4.out.trans (hb.mono HB4.out.size)).alloc (Nat.le_trans HB4.out.size hb.size) (.cells #[.slice none 0 0,.int .i64 av,.int .i64 er,.int .i64 l,.int .i64 c] 117))
   have hq3:=(HQ4.out.below hb).alloc (.cells #[.slice none 0 0,.int .i64 av,.int .i64 er,.int .i64 l,.int .i64 c] 117)
   have ha3:=(show PrB (w4.alloc (.cells #[.slice none 0 0,.int .i64 av,.int .i64 er,.int .i64 l,.int .i64 c] 117)) w4.heap.size (.slice none 0 0) av er l c from heap_alloc_new w4 _)
   have m2:=ha3.facts.2.2.1
   clear hb h0 d0 d1 d2 d3 d4 f0 f1 f2 f3 f4
   go_upto_if 97 with fail
   obtain⟨WW,hWW⟩:∃ W,w4.alloc (.cells #[.slice none 0 0,.int .i64 av,.int .i64 er,.int .i64 l,.int .i64 c] 117)=W:=⟨_,rfl⟩
   rw[hWW] at hq3 ha3 HBx ⊢
   clear hWW m2
   obtain⟨m0,m1,m2,m3,m4⟩:=ha3.facts
   obtain⟨c0,c1,c2,c3,c4⟩:=hq3.facts
   obtain⟨z0,z1,z2,z3,z4⟩:=hq3.free
   have hlt3:=hq3.lt
   have HE:=Lh (hq3.stored (.slice none 0 0) av er l c).facts
   clear hq3 ha3
   go_wp2
   obtain⟨e0,e1,e2,e3,e4⟩:=HE.out
   refine bodyPost_ret (v:=.agg #[.slice none 0 0,.int .i64 av,.int .i64 er,.int .i64 l,.int .i64 c]) (by simp[results,Tryz.results124,go_sem,e0,e1,e2,e3,e4]) rfl ?_
   exact RPost.fault HP.out av H0.out rfl (below_tok HBx.out (Nat.le_refl _) _ _ _ _ _)
 | ok o1 a1=>
   have hg1:=HG.out _ _ _ hp1
   have HN1:=Lh (HFL.out _ _ _ hp1)
   have HL1:=Lh (show o1.length≤1000000 by omega)
   have HE1:=Lh hp1
   have HP:Hid ((((sg (i+1)).also fun o a=>.ok (o ++ [⟨23,⟨#[]⟩,0,⟨#[]⟩,0,⟨#[]⟩,⟨#[]⟩,x.line,x.col⟩]) a):PR)=.ok (o1 ++ [⟨23,⟨#[]⟩,0,⟨#[]⟩,0,⟨#[]⟩,⟨#[]⟩,x.line,x.col⟩]) a1):=also_of_ok hp1
   clear hp1
   refine(HSO.out _ B lv T (i+1) true (d+1) (HTK.out _ HB4.out) (Nat.le_trans hB HB4.out.size) (by omega) (by omega) HDN.out).mono ?_
   rw[HSM.out,HE1.out]
   rintro e w4 ⟨g1,cap1,rfl,hrow,hb⟩
   have HB5:=Lh ((HB4.out.trans (hb.mono HB4.out.size)).alloc (Nat.le_trans HB4.out.size hb.size) (.cells #[.slice (some ⟨g1,0,none⟩) o1.length cap1,.int .i64 a1,.int .i64 0,.int .i64 0,.int .i64 0] 117))
   have HQ5:=Lh ((HQ4.out.below hb).alloc (.cells #[.slice (some ⟨g1,0,none⟩) o1.length cap1,.int .i64 a1,.int .i64 0,.int .i64 0,.int .i64 0] 117))
   have HT5:=Lh ((HT4.out.below hb HT4.out.lt).alloc (.cells #[.slice (some ⟨g1,0,none⟩) o1.length cap1,.int .i64 a1,.int .i64 0,.int .i64 0,.int .i64 0] 117))
   have HA5:=Lh (show PrB (w4.alloc (.cells #[.slice (some ⟨g1,0,none⟩) o1.length cap1,.int .i64 a1,.int .i64 0,.int .i64 0,.int .i64 0] 117)) w4.heap.size (.slice (some ⟨g1,0,none⟩) o1.length cap1) a1 0 0 0 from heap_alloc_new w4 _)
   have HR5:=Lh (owns_alloc hrow (.cells #[.slice (some ⟨g1,0,none⟩) o1.length cap1,.int .i64 a1,.int .i64 0,.int .i64 0,.int .i64 0] 117))
   have hob: (w4.alloc (.cells #[.slice (some ⟨g1,0,none⟩) o1.length cap1,.int .i64 a1,.int .i64 0,.int .i64 0,.int .i64 0] 117)).heap[w2.heap.size+1+1]?=some oB12:=(Below.heap_alloc _ _ _ (Array.getElem?_eq_some_iff.1 ((hb.block _ (Array.getElem?_eq_some_iff.1 HO4.out).1).trans HO4.out)).1).trans ((hb.block _ (Array.getElem?_eq_some_iff.1 HO4.out).1).trans HO4.out)
   have HO5:=Lh hob
   have hlo4:=(Array.getElem?_eq_some_iff.1 ((hb.block _ (Array.getElem?_eq_some_iff.1 HO4.out).1).trans HO4.out)).1
   have hlq4:=(HQ4.out.below hb).lt
   have m2:=HA5.out.facts.2.2.1
   clear hb hrow hob d0 d1 d2 d3 d4 f0 f1 f2 f3 f4
   go_upto_if 97 with fail
   obtain⟨W5,hW5⟩:∃ W,w4.alloc (.cells #[.slice (some ⟨g1,0,none⟩) o1.length cap1,.int .i64 a1,.int .i64 0,.int .i64 0,.int .i64 0] 117)=W:=⟨_,rfl⟩
   rw[hW5] at HB5 HQ5 HT5 HA5 HR5 HO5 ⊢
   clear hW5 m2 HB0 HB1 HB2 HB3 HB4 HQ HQ1 HQ2 HQ3 HQ4 HT2 HT3 HT4 HO4 HN3
   have q5:W5.drew.cell? ⟨w2.heap.size+1+1,5,none⟩ = some (.int .i64 23):=by show W5.cell? _=_;simp[World.cell?,HO5.out]
   have hol:=(Array.getElem?_eq_some_iff.1 HO5.out).1
   go_wp2
   obtain⟨n0,n1,n2,n3,n4⟩:=HA5.out.drew.facts
   have n5:=q5
   obtain⟨_,_,_,n6,n7⟩:=HT5.out.drew.facts
   have hl5a:=HA5.out.lt;have hl5q:=HQ5.out.lt;have hl5t:=HT5.out.lt
   have hs5:=HB5.out.size
   first
   | (go_region_held3 (fun w'=>w'.cell? ⟨w4.heap.size,0,none⟩ = some (.slice (some ⟨g1,0,none⟩) o1.length cap1)∧w'.cell? ⟨w4.heap.size,1,none⟩ = some (.int .i64 a1)∧w'.cell? ⟨w4.heap.size,2,none⟩ = some (.int .i64 0)∧w'.cell? ⟨w4.heap.size,3,none⟩ = some (.int .i64 0)∧w'.cell? ⟨w4.heap.size,4,none⟩ = some (.int .i64 0)∧w'.cell? ⟨w2.heap.size+1+1,5,none⟩ = some (.int .i64 23)∧w'.cell? ⟨w2.heap.size,3,none⟩ = some (.int .i64 x.line)∧w'.cell? ⟨w2.heap.size,4,none⟩ = some (.int .i64 x.col))
       (first| (with_reducible exact⟨n0,n1,n2,n3,n4,n5,n6,n7⟩)| (with_reducible exact⟨f0,f1,f2,f3,f4,f5,f6,f7⟩)| (with_reducible exact⟨t0,t1,t2,t3,t4,t5,t6,t7⟩)| (trace_state;fail))
       (first
         | (go_simp;go_at_call 107;have hal:=also_nil HR5.out.drew HN1.out HL1.out 0 0 0 0 a1 0 0 0 (⟨23,⟨#[]⟩,0,⟨#[]⟩,0,⟨#[]⟩,⟨#[]⟩,x.line,x.col⟩:It)
            dsimp only at hal
            (with_reducible refine Calls.mono hal ?_)
            clear hal
            rintro e w9 ⟨g9,cap9,rfl,hown9,hb9⟩
            have HB9:=Lh (HB5.out.drew.trans (hb9.mono HB5.out.drew.size))
            have hq9:=HQ5.out.drew.below hb9
            obtain⟨c0,c1,c2,c3,c4⟩:=hq9.facts
            obtain⟨z0,z1,z2,z3,z4⟩:=hq9.free
            have hlt9:=hq9.lt
            have ha9:=HA5.out.drew.below hb9
            have ht9:=HT5.out.drew.below hb9 HT5.out.lt
            obtain⟨f0,f1,f2,f3,f4⟩:=ha9.facts
            obtain⟨_,_,_,f6,f7⟩:=ht9.facts
            have f5:w9.cell? ⟨w2.heap.size+1+1,5,none⟩ = some (.int .i64 23):=(hb9.cell (p:=⟨w2.heap.size+1+1,5,none⟩) hol).trans n5
            obtain⟨t0,t1,t2,t3,t4⟩:=(((((ha9.over (k:=w.heap.size) (j:=0) (by omega) (.slice (some ⟨g9,0,none⟩) (o1.length+1) cap9)).over (k:=w.heap.size) (j:=1) (by omega) (.int .i64 a1)).over (k:=w.heap.size) (j:=2) (by omega) (.int .i64 0)).over (k:=w.heap.size) (j:=3) (by omega) (.int .i64 0)).over (k:=w.heap.size) (j:=4) (by omega) (.int .i64 0)).facts
            obtain⟨_,_,_,t6,t7⟩:=(((((ht9.setOther (g:=w.heap.size) (j:=0) (by omega) (.slice (some ⟨g9,0,none⟩) (o1.length+1) cap9)).setOther (g:=w.heap.size) (j:=1) (by omega) (.int .i64 a1)).setOther (g:=w.heap.size) (j:=2) (by omega) (.int .i64 0)).setOther (g:=w.heap.size) (j:=3) (by omega) (.int .i64 0)).setOther (g:=w.heap.size) (j:=4) (by omega) (.int .i64 0)).facts
            have t5:=cell_tok (k:=w.heap.size) (.slice (some ⟨g9,0,none⟩) (o1.length+1) cap9) (.int .i64 a1) (.int .i64 0) (.int .i64 0) (.int .i64 0) (show w2.heap.size+1+1≠w.heap.size by omega) f5
            have HE:=Lh (hq9.stored (.slice (some ⟨g9,0,none⟩) (o1.length+1) cap9) a1 0 0 0).facts
            have HOWN:=Lh (hq9.row (owns_mono hown9 (show w.heap.size≤W5.heap.size by omega)) (by decide) (.slice (some ⟨g9,0,none⟩) (o1.length+1) cap9) a1 0 0 0)
            clear hown9 hb9 hq9 ha9 ht9)))
   | fail
   all_goals
    go_wp2
    obtain⟨e0,e1,e2,e3,e4⟩:=HE.out
    refine bodyPost_ret (v:=.agg #[.slice (some ⟨g9,0,none⟩) (o1.length+1) cap9,.int .i64 a1,.int .i64 0,.int .i64 0,.int .i64 0]) (by simp[results,Tryz.results124,go_sem,e0,e1,e2,e3,e4]) rfl ?_
    exact RPost.good HP.out (by simp) rfl HOWN.out (below_tok HB9.out (Nat.le_refl _) _ _ _ _ _)
theorem rsign_op6 (n:Nat) (hn:n≤24) {w:World} {B:Nat} {lv:Value} {T:List Tk} (h:TkIn w B lv T) (hB:B≤w.heap.size) (i:Int) (hlo:-9223372036854775808≤i) (hhi:i≤1000000) (d:Int) (hd:d=24 - (n:Int)) (hs:RSignOK n) (ho:isTk T i 4 sOpen=false) (hkind: (tkAt T i).kind=2) (hk:idxP notL (tkAt T i).text=6) :
 Calls Tryz.prog 124 #[lv,.int .i64 i,.int .i64 d,.bool true] w (RPost w (((bothP T true n).1 (i+1)).also fun o a=>.ok (o ++ [item 24 (tkAt T i)]) a)):=by
 have hTl:=h.len
 have HTK:Hid (∀ W,Below w.heap.size w W→TkIn W B lv T):=fun W hW=>h.below (hW.mono hB)
 have HB0:=Lh ((Below.refl w.heap.size w).alloc (Nat.le_refl _) oB6)
 have HQ:=Lh (show PrB (w.alloc oB6) w.heap.size (.slice none 0 0) 0 0 0 0 from heap_alloc_new w _)
 have hdd:d≤24:=by omega
 have hd0:0≤d:=by omega
 have HDN:=Lh (show d+1=25 - (n:Int) by omega)
 have HSO:=Lh hs
 obtain⟨sg,hsg⟩:∃ f,(bothP T true n).1=f:=⟨_,rfl⟩
 have HSM:=Lh hsg
 have HG:=both_good T true n |>.1
 have HFL:=both_full T true n |>.1
 rw[hsg] at HG HFL ⊢
 replace HG:=Lh HG;replace HFL:=Lh HFL
 have hgi:=tkAt_in (T:=T) (i:=i) (by omega)
 clear hsg hs
 have Hqo:Hid (isTk T i 4 sOpen=false):=ho
 obtain⟨x,hx⟩:∃ x,tkAt T i=x:=⟨_,rfl⟩
 rw[hx] at hkind
 have HX:=Lh hx
 have hfx3:∀ w:World,(Instr.field 48 (.agg #[.int .i64 x.kind,.string x.text,.int .i64 x.num,.int .i64 x.line,.int .i64 x.col]) 3).run Tryz.prog w=.ok (.agg #[.int .i64 x.line,.int .i64 x.col]) w:=fun _=>by kernel_rfl
 rw[hx]
 show Calls _ _ _ _ (RPost w ((sg (i+1)).also fun o a=>.ok (o ++ [⟨24,⟨#[]⟩,0,⟨#[]⟩,0,⟨#[]⟩,⟨#[]⟩,x.line,x.col⟩]) a))
 have yd: (x.kind == 2)=true:=by rw[beq_iff_eq];exact hkind
 have yd2: (x.kind !=2)=false:=by simp[bne,yd]
 rw[hx] at hk
 have HK:=Lh hk
 clear h ho hd hkind hx hk
 go_enter Tryz.func124,Tryz.ntmps124
 go_wp2_with fail
 refine(rcis_any (HTK.out _ HB0.out) i 4 ⟨#[40]⟩).mono ?_
 rw[show isTk T i 4 ⟨#[40]⟩ = false from Hqo.out]
 rintro e w1 ⟨rfl,hb⟩
 have HB1:=Lh (HB0.out.trans (hb.mono HB0.out.size))
 have HQ1:=Lh (HQ.out.below hb)
 clear hb
 go_wp2_with fail
 refine(rctok_any (HTK.out _ HB1.out) i).mono ?_
 rintro e w2 ⟨rfl,hb⟩
 rw[HX.out]
 unfold tokV
 have HB2:=Lh ((HB1.out.trans (hb.mono HB1.out.size)).alloc (Nat.le_trans HB1.out.size hb.size) (tO x))
 have HQ2:=Lh ((HQ1.out.below hb).alloc (tO x))
 have HT2:=Lh (show TkB (w2.alloc (tO x)) w2.heap.size x from heap_alloc_new w2 _)
 have hlt2:=(HQ1.out.below hb).lt
 obtain⟨d0,d1,d2,d3,d4⟩:=HT2.out.facts
 clear hb
 have HB3:=Lh (HB2.out.alloc HB2.out.size oB1)
 have HQ3:=Lh (HQ2.out.alloc oB1)
 have HT3:=Lh (HT2.out.alloc oB1)
 have hn3: (w2.alloc (tO x) |>.alloc oB1).heap[w2.heap.size+1]?=some oB10:=heap_at_size _ _ _ (by simp)
 have HN3:=Lh (show Reads (w2.alloc (tO x) |>.alloc oB1) (.slice (some ⟨w2.heap.size+1,0,none⟩) 9 9) (strs notL) from blk_reads hn3 9 (by decide))
 clear hn3
 obtain⟨f0,f1,f2,f3,f4⟩:=HT3.out.facts
 go_wp2_with fail
 refine(rcindex_any _ notL x.text _ HN3.out (by decide)).mono ?_
 rintro e w' ⟨rfl,rfl⟩
 rw[HK.out]
 have HB4:=Lh (HB3.out.alloc HB3.out.size oB8)
 have HQ4:=Lh (HQ3.out.alloc oB8)
 have HT4:=Lh (HT3.out.alloc oB8)
 have ho4: (w2.alloc (tO x) |>.alloc oB1 |>.alloc oB8).heap[w2.heap.size+1+1]?=some oB12:=heap_at_size _ _ _ (by simp)
 have HO4:=Lh ho4
 clear ho4
 go_wp2_with fail
 cases hp1:sg (i+1) with
 | bad er l c=>
   have HE1:=Lh hp1
   have HP:Hid ((((sg (i+1)).also fun o a=>.ok (o ++ [⟨24,⟨#[]⟩,0,⟨#[]⟩,0,⟨#[]⟩,⟨#[]⟩,x.line,x.col⟩]) a):PR)=.bad er l c):=also_of_bad hp1
   clear hp1
   refine(HSO.out _ B lv T (i+1) true (d+1) (HTK.out _ HB4.out) (Nat.le_trans hB HB4.out.size) (by omega) (by omega) HDN.out).mono ?_
   rw[HSM.out,HE1.out]
   rintro e w4 ⟨av,h0,rfl,hb⟩
   have H0:=Lh h0
   have ne: (er == 0)=false:=beq_eq_false_iff_ne.2 h0
   have ne2: (er !=0)=true:=by simp[bne,ne]
   have HBx:=Lh ((HB4.out.trans (hb.mono HB4.out.size)).alloc (Nat.le_trans HB4.out.size hb.size) (.cells #[.slice none 0 0,.int .i64 av,.int .i64 er,.int .i64 l,.int .i64 c] 117))
   have hq3:=(HQ4.out.below hb).alloc (.cells #[.slice none 0 0,.int .i64 av,.int .i64 er,.int .i64 l,.int .i64 c] 117)
   have ha3:=(show PrB (w4.alloc (.cells #[.slice none 0 0,.int .i64 av,.int .i64 er,.int .i64 l,.int .i64 c] 117)) w4.heap.size (.slice none 0 0) av er l c from heap_alloc_new w4 _)
   have m2:=ha3.facts.2.2.1
   clear hb h0 d0 d1 d2 d3 d4 f0 f1 f2 f3 f4
   go_upto_if 97 with fail
   obtain⟨WW,hWW⟩:∃ W,w4.alloc (.cells #[.slice none 0 0,.int .i64 av,.int .i64 er,.int .i64 l,.int .i64 c] 117)=W:=⟨_,rfl⟩
   rw[hWW] at hq3 ha3 HBx ⊢
   clear hWW m2
   obtain⟨m0,m1,m2,m3,m4⟩:=ha3.facts
   obtain⟨c0,c1,c2,c3,c4⟩:=hq3.facts
   obtain⟨z0,z1,z2,z3,z4⟩:=hq3.free
   have hlt3:=hq3.lt
   have HE:=Lh (hq3.stored (.slice none 0 0) av er l c).facts
   clear hq3 ha3
   go_wp2
   obtain⟨e0,e1,e2,e3,e4⟩:=HE.out
   refine bodyPost_ret (v:=.agg #[.slice none 0 0,.int .i64 av,.int .i64 er,.int .i64 l,.int .i64 c]) (by simp[results,Tryz.results124,go_sem,e0,e1,e2,e3,e4]) rfl ?_
   exact RPost.fault HP.out av H0.out rfl (below_tok HBx.out (Nat.le_refl _) _ _ _ _ _)
 | ok o1 a1=>
   have hg1:=HG.out _ _ _ hp1
   have HN1:=Lh (HFL.out _ _ _ hp1)
   have HL1:=Lh (show o1.length≤1000000 by omega)
   have HE1:=Lh hp1
   have HP:Hid ((((sg (i+1)).also fun o a=>.ok (o ++ [⟨24,⟨#[]⟩,0,⟨#[]⟩,0,⟨#[]⟩,⟨#[]⟩,x.line,x.col⟩]) a):PR)=.ok (o1 ++ [⟨24,⟨#[]⟩,0,⟨#[]⟩,0,⟨#[]⟩,⟨#[]⟩,x.line,x.col⟩]) a1):=also_of_ok hp1
   clear hp1
   refine(HSO.out _ B lv T (i+1) true (d+1) (HTK.out _ HB4.out) (Nat.le_trans hB HB4.out.size) (by omega) (by omega) HDN.out).mono ?_
   rw[HSM.out,HE1.out]
   rintro e w4 ⟨g1,cap1,rfl,hrow,hb⟩
   have HB5:=Lh ((HB4.out.trans (hb.mono HB4.out.size)).alloc (Nat.le_trans HB4.out.size hb.size) (.cells #[.slice (some ⟨g1,0,none⟩) o1.length cap1,.int .i64 a1,.int .i64 0,.int .i64 0,.int .i64 0] 117))
   have HQ5:=Lh ((HQ4.out.below hb).alloc (.cells #[.slice (some ⟨g1,0,none⟩) o1.length cap1,.int .i64 a1,.int .i64 0,.int .i64 0,.int .i64 0] 117))
   have HT5:=Lh ((HT4.out.below hb HT4.out.lt).alloc (.cells #[.slice (some ⟨g1,0,none⟩) o1.length cap1,.int .i64 a1,.int .i64 0,.int .i64 0,.int .i64 0] 117))
   have HA5:=Lh (show PrB (w4.alloc (.cells #[.slice (some ⟨g1,0,none⟩) o1.length cap1,.int .i64 a1,.int .i64 0,.int .i64 0,.int .i64 0] 117)) w4.heap.size (.slice (some ⟨g1,0,none⟩) o1.length cap1) a1 0 0 0 from heap_alloc_new w4 _)
   have HR5:=Lh (owns_alloc hrow (.cells #[.slice (some ⟨g1,0,none⟩) o1.length cap1,.int .i64 a1,.int .i64 0,.int .i64 0,.int .i64 0] 117))
   have hob: (w4.alloc (.cells #[.slice (some ⟨g1,0,none⟩) o1.length cap1,.int .i64 a1,.int .i64 0,.int .i64 0,.int .i64 0] 117)).heap[w2.heap.size+1+1]?=some oB12:=(Below.heap_alloc _ _ _ (Array.getElem?_eq_some_iff.1 ((hb.block _ (Array.getElem?_eq_some_iff.1 HO4.out).1).trans HO4.out)).1).trans ((hb.block _ (Array.getElem?_eq_some_iff.1 HO4.out).1).trans HO4.out)
   have HO5:=Lh hob
   have hlo4:=(Array.getElem?_eq_some_iff.1 ((hb.block _ (Array.getElem?_eq_some_iff.1 HO4.out).1).trans HO4.out)).1
   have hlq4:=(HQ4.out.below hb).lt
   have m2:=HA5.out.facts.2.2.1
   clear hb hrow hob d0 d1 d2 d3 d4 f0 f1 f2 f3 f4
   go_upto_if 97 with fail
   obtain⟨W5,hW5⟩:∃ W,w4.alloc (.cells #[.slice (some ⟨g1,0,none⟩) o1.length cap1,.int .i64 a1,.int .i64 0,.int .i64 0,.int .i64 0] 117)=W:=⟨_,rfl⟩
   rw[hW5] at HB5 HQ5 HT5 HA5 HR5 HO5 ⊢
   clear hW5 m2 HB0 HB1 HB2 HB3 HB4 HQ HQ1 HQ2 HQ3 HQ4 HT2 HT3 HT4 HO4 HN3
   have q5:W5.drew.cell? ⟨w2.heap.size+1+1,6,none⟩ = some (.int .i64 24):=by show W5.cell? _=_;simp[World.cell?,HO5.out]
   have hol:=(Array.getElem?_eq_some_iff.1 HO5.out).1
   go_wp2
   obtain⟨n0,n1,n2,n3,n4⟩:=HA5.out.drew.facts
   have n5:=q5
   obtain⟨_,_,_,n6,n7⟩:=HT5.out.drew.facts
   have hl5a:=HA5.out.lt;have hl5q:=HQ5.out.lt;have hl5t:=HT5.out.lt
   have hs5:=HB5.out.size
   first
   | (go_region_held3 (fun w'=>w'.cell? ⟨w4.heap.size,0,none⟩ = some (.slice (some ⟨g1,0,none⟩) o1.length cap1)∧w'.cell? ⟨w4.heap.size,1,none⟩ = some (.int .i64 a1)∧w'.cell? ⟨w4.heap.size,2,none⟩ = some (.int .i64 0)∧w'.cell? ⟨w4.heap.size,3,none⟩ = some (.int .i64 0)∧w'.cell? ⟨w4.heap.size,4,none⟩ = some (.int .i64 0)∧w'.cell? ⟨w2.heap.size+1+1,6,none⟩ = some (.int .i64 24)∧w'.cell? ⟨w2.heap.size,3,none⟩ = some (.int .i64 x.line)∧w'.cell? ⟨w2.heap.size,4,none⟩ = some (.int .i64 x.col))
       (first| (with_reducible exact⟨n0,n1,n2,n3,n4,n5,n6,n7⟩)| (with_reducible exact⟨f0,f1,f2,f3,f4,f5,f6,f7⟩)| (with_reducible exact⟨t0,t1,t2,t3,t4,t5,t6,t7⟩)| (trace_state;fail))
       (first
         | (go_simp;go_at_call 107;have hal:=also_nil HR5.out.drew HN1.out HL1.out 0 0 0 0 a1 0 0 0 (⟨24,⟨#[]⟩,0,⟨#[]⟩,0,⟨#[]⟩,⟨#[]⟩,x.line,x.col⟩:It)
            dsimp only at hal
            (with_reducible refine Calls.mono hal ?_)
            clear hal
            rintro e w9 ⟨g9,cap9,rfl,hown9,hb9⟩
            have HB9:=Lh (HB5.out.drew.trans (hb9.mono HB5.out.drew.size))
            have hq9:=HQ5.out.drew.below hb9
            obtain⟨c0,c1,c2,c3,c4⟩:=hq9.facts
            obtain⟨z0,z1,z2,z3,z4⟩:=hq9.free
            have hlt9:=hq9.lt
            have ha9:=HA5.out.drew.below hb9
            have ht9:=HT5.out.drew.below hb9 HT5.out.lt
            obtain⟨f0,f1,f2,f3,f4⟩:=ha9.facts
            obtain⟨_,_,_,f6,f7⟩:=ht9.facts
            have f5:w9.cell? ⟨w2.heap.size+1+1,6,none⟩ = some (.int .i64 24):=(hb9.cell (p:=⟨w2.heap.size+1+1,6,none⟩) hol).trans n5
            obtain⟨t0,t1,t2,t3,t4⟩:=(((((ha9.over (k:=w.heap.size) (j:=0) (by omega) (.slice (some ⟨g9,0,none⟩) (o1.length+1) cap9)).over (k:=w.heap.size) (j:=1) (by omega) (.int .i64 a1)).over (k:=w.heap.size) (j:=2) (by omega) (.int .i64 0)).over (k:=w.heap.size) (j:=3) (by omega) (.int .i64 0)).over (k:=w.heap.size) (j:=4) (by omega) (.int .i64 0)).facts
            obtain⟨_,_,_,t6,t7⟩:=(((((ht9.setOther (g:=w.heap.size) (j:=0) (by omega) (.slice (some ⟨g9,0,none⟩) (o1.length+1) cap9)).setOther (g:=w.heap.size) (j:=1) (by omega) (.int .i64 a1)).setOther (g:=w.heap.size) (j:=2) (by omega) (.int .i64 0)).setOther (g:=w.heap.size) (j:=3) (by omega) (.int .i64 0)).setOther (g:=w.heap.size) (j:=4) (by omega) (.int .i64 0)).facts
            have t5:=cell_tok (k:=w.heap.size) (.slice (some ⟨g9,0,none⟩) (o1.length+1) cap9) (.int .i64 a1) (.int .i64 0) (.int .i64 0) (.int .i64 0) (show w2.heap.size+1+1≠w.heap.size by omega) f5
            have HE:=Lh (hq9.stored (.slice (some ⟨g9,0,none⟩) (o1.length+1) cap9) a1 0 0 0).facts
            have HOWN:=Lh (hq9.row (owns_mono hown9 (show w.heap.size≤W5.heap.size by omega)) (by decide) (.slice (some ⟨g9,0,none⟩) (o1.length+1) cap9) a1 0 0 0)
            clear hown9 hb9 hq9 ha9 ht9)))
   | fail
   all_goals
    go_wp2
    obtain⟨e0,e1,e2,e3,e4⟩:=HE.out
    refine bodyPost_ret (v:=.agg #[.slice (some ⟨g9,0,none⟩) (o1.length+1) cap9,.int .i64 a1,.int .i64 0,.int .i64 0,.int .i64 0]) (by simp[results,Tryz.results124,go_sem,e0,e1,e2,e3,e4]) rfl ?_
    exact RPost.good HP.out (by simp) rfl HOWN.out (below_tok HB9.out (Nat.le_refl _) _ _ _ _ _)
end Go.Proofs.YthlofmnmacpogaaGreatDoor
