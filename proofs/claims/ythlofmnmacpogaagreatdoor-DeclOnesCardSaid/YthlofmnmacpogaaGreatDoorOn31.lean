/- A part of a proof: 'warder/warderlaw07.DeclOnes' returns true for every input and leaves its arguments as they were; no condition. The row lists package-level variables of Go's library with what they hold at the start; the card ties them to the program's text. -/
import Derived.Test.YthlofmnmacpogaaGreatDoorOn30
import Derived.Deep.DeepCutAuto
import Derived.Test.YthlofmnmacpogaaGreatDoorOn29
namespace Go.Proofs.YthlofmnmacpogaaGreatDoor
open Go.RowKit
def ldA:Op:=Op.load 117 (Operand.tmp 9)
theorem ldA_is:Op.load 117 (Operand.tmp 9)=ldA:=rfl
def ldT:Op:=Op.load 3 (Operand.tmp 41)
theorem ldT_is:Op.load 3 (Operand.tmp 41)=ldT:=rfl
attribute [local go_sem] ldA ldT
theorem posOf_is {w:World} {b:Nat} {v:Value} {a e l c:Int} (h:PrB w b v a e l c):posOf w b=a.toNat:=by unfold posOf;rw[h.facts.2.1]
set_option maxRecDepth 100000 in
set_option maxHeartbeats 4000000 in
theorem rands_any (n:Nat) (hs:RSignOK n) {w:World} {B:Nat} {lv:Value} {T:List Tk} (h:TkIn w B lv T) (hB:B≤w.heap.size) (i:Int) (hlo:-9223372036854775808≤i) (hhi:i≤1000000) (prop:Bool) (d:Int) (hd:d=25 - (n:Int)) :
 Calls Tryz.prog 105 #[lv,.int .i64 i,.int .i64 d,.bool prop] w (RPost w (rowsP T (bothP T prop n).1 wAnd 16 i)):=by
 have hTl:=h.len
 have HTK:Hid (∀ W,Below w.heap.size w W→TkIn W B lv T):=fun W hW=>h.below (hW.mono hB)
 have HB0:=Lib.hid ((Below.refl w.heap.size w).alloc (Nat.le_refl _) (.cells #[.slice none 0 0,.int .i64 0,.int .i64 0,.int .i64 0,.int .i64 0] 117))
 have HQ:=Lib.hid (show PrB (w.alloc (.cells #[.slice none 0 0,.int .i64 0,.int .i64 0,.int .i64 0,.int .i64 0] 117)) w.heap.size (.slice none 0 0) 0 0 0 0 from heap_alloc_new w _)
 have HC:∀ W,TkIn W B lv T→B≤W.heap.size→∀ i,-9223372036854775808≤i→i≤1000000→Calls Tryz.prog 124 #[lv,.int .i64 i,.int .i64 d,.bool prop] W (RPost W ((bothP T prop n).1 i)):=fun W h1 h2 i h3 h4=>hs W B lv T i prop d h1 h2 h3 h4 hd
 have HG:=(both_good T prop n).1
 have HFL:=(both_full T prop n).1
 clear hs hd
 obtain⟨one,hone⟩:∃ f,(bothP T prop n).1=f:=⟨_,rfl⟩
 rw[hone] at HG HFL HC ⊢
 clear hone
 replace HG:=Lib.hid HG;replace HFL:=Lib.hid HFL;replace HC:=Lib.hid HC
 clear h
 cases hp1:one i with
 | bad er l c=>
   have HE1:=Lib.hid hp1
   have HPR:Hid (rowsP T one wAnd 16 i=.bad er l c):=by unfold Hid rowsP;exact also_of_bad hp1
   clear hp1
   go_enter Tryz.func105,Tryz.ntmps105
   go_wp2_with fail
   refine(HC.out _ (HTK.out _ HB0.out) (Nat.le_trans hB HB0.out.size) i hlo hhi).mono ?_
   rw[HE1.out]
   rintro e w2 ⟨av,h0,rfl,hb⟩
   have H0:=Lib.hid h0
   have ne: (er == 0)=false:=beq_eq_false_iff_ne.2 h0
   have ne2: (er !=0)=true:=by simp[bne,ne]
   have HBx:=Lib.hid ((HB0.out.trans (hb.mono HB0.out.size)).alloc (Nat.le_trans HB0.out.size hb.size) (.cells #[.slice none 0 0,.int .i64 av,.int .i64 er,.int .i64 l,.int .i64 c] 117))
   have hq3:=(HQ.out.below hb).alloc (.cells #[.slice none 0 0,.int .i64 av,.int .i64 er,.int .i64 l,.int .i64 c] 117)
   have ha3:=(show PrB (w2.alloc (.cells #[.slice none 0 0,.int .i64 av,.int .i64 er,.int .i64 l,.int .i64 c] 117)) w2.heap.size (.slice none 0 0) av er l c from heap_alloc_new w2 _)
   have HQ3:=Lib.hid hq3;have HA3:=Lib.hid ha3
   clear hb h0 hq3 ha3
   go_wp2
   go_loopw [10] (fun _ wr=>wr=w2.alloc (.cells #[.slice none 0 0,.int .i64 av,.int .i64 er,.int .i64 l,.int .i64 c] 117)) (fun _ _=>0)
   case atStart=>rfl
   case round=>
    subst hrel
    obtain⟨WW,hWW⟩:∃ W,w2.alloc (.cells #[.slice none 0 0,.int .i64 av,.int .i64 er,.int .i64 l,.int .i64 c] 117)=W:=⟨_,rfl⟩
    rw[hWW] at HQ3 HA3 HBx ⊢
    clear hWW
    obtain⟨d0,d1,d2,d3,d4⟩:=HA3.out.facts
    obtain⟨c0,c1,c2,c3,c4⟩:=HQ3.out.facts
    obtain⟨z0,z1,z2,z3,z4⟩:=HQ3.out.free
    have hlt3:=HQ3.out.lt
    have HE:=Lib.hid (HQ3.out.stored (.slice none 0 0) av er l c).facts
    go_wp2
    obtain⟨e0,e1,e2,e3,e4⟩:=HE.out
    refine bodyPost_ret (v:=.agg #[.slice none 0 0,.int .i64 av,.int .i64 er,.int .i64 l,.int .i64 c]) (by simp[results,Tryz.results105,go_sem,e0,e1,e2,e3,e4]) rfl ?_
    exact RPost.fault HPR.out av H0.out rfl (below_tok HBx.out (Nat.le_refl _) _ _ _ _ _)
 | ok o1 a1=>
   have hg1:=HG.out _ _ _ hp1
   have hf1:=HFL.out _ _ _ hp1
   have HE1:=Lib.hid hp1
   have HPR:Hid (rowsP T one wAnd 16 i=rowP T one wAnd 16 (T.length+1) a1 o1):=by unfold Hid rowsP;exact also_of_ok hp1
   clear hp1
   go_enter Tryz.func105,Tryz.ntmps105
   go_wp2_with fail
   refine(HC.out _ (HTK.out _ HB0.out) (Nat.le_trans hB HB0.out.size) i hlo hhi).mono ?_
   rw[HE1.out]
   rintro e w2 ⟨g1,cap1,rfl,hrow,hb⟩
   have hB2:=((HB0.out.trans (hb.mono HB0.out.size)).alloc (Nat.le_trans HB0.out.size hb.size) (.cells #[.slice (some ⟨g1,0,none⟩) o1.length cap1,.int .i64 a1,.int .i64 0,.int .i64 0,.int .i64 0] 117))
   have hQ2:=((HQ.out.below hb).alloc (.cells #[.slice (some ⟨g1,0,none⟩) o1.length cap1,.int .i64 a1,.int .i64 0,.int .i64 0,.int .i64 0] 117))
   have hA2:=(show PrB (w2.alloc (.cells #[.slice (some ⟨g1,0,none⟩) o1.length cap1,.int .i64 a1,.int .i64 0,.int .i64 0,.int .i64 0] 117)) w2.heap.size (.slice (some ⟨g1,0,none⟩) o1.length cap1) a1 0 0 0 from heap_alloc_new w2 _)
   have hR2:=(owns_mono (owns_alloc hrow (.cells #[.slice (some ⟨g1,0,none⟩) o1.length cap1,.int .i64 a1,.int .i64 0,.int .i64 0,.int .i64 0] 117)) HB0.out.size)
   have hlt2:=(HQ.out.below hb).lt
   have HB2:=Lib.hid hB2;have HQ2:=Lib.hid hQ2;have HA2:=Lib.hid hA2;have HR2:=Lib.hid hR2
   clear hb hrow hB2 hQ2 hA2 hR2
   go_wp2
   obtain⟨b9,hb9⟩:∃ b,w2.heap.size=b:=⟨_,rfl⟩
   rw[hb9] at HA2 hlt2
   simp only[hb9]
   clear HB0 HQ
   go_loopw [10] (fun _ wr=>∃ (k:Nat) (j:Int) (out:List It) (g cap:Nat),Hid (PrB wr b9 (.slice (some ⟨g,0,none⟩) out.length cap) j 0 0 0∧PrB wr w.heap.size (.slice none 0 0) 0 0 0 0∧wr.ownsRow w.heap.size 87 9 (.slice (some ⟨g,0,none⟩) out.length cap) out.length (itFlat out)∧Below w.heap.size w wr∧
    rowsP T one wAnd 16 i=rowP T one wAnd 16 k j out∧1≤j∧j≤T.length∧(T.length:Int) < j+k∧(out.length:Int)≤j∧0 < out.length)) (fun _ wr=>T.length+1 - posOf wr b9)
   case atStart=>exact⟨T.length+1,a1,o1,g1,cap1,HA2.out,HQ2.out,HR2.out,HB2.out,HPR.out,by omega,by omega,by omega,by omega,hf1⟩
   case round=>
    clear HB2 HQ2 HA2 HR2 hg1 hf1 HPR HE1
    obtain⟨k,j,out,g,cap,HALL⟩:=hrel
    obtain⟨hA,hQ,hR,hBw,hPR,hj1,hjT,hjk,hoj,hop⟩:=HALL.out
    have HA:=Lib.hid hA;have HQ:=Lib.hid hQ;have HR:=Lib.hid hR;have HB:=Lib.hid hBw;have HPR:=Lib.hid hPR;have HOP:=Lib.hid hop
    have HOL:=Lib.hid (show out.length≤1000000 by omega)
    have HOJ:=Lib.hid hoj
    have hpos:Hid (posOf wr b9=j.toNat):=by unfold Hid posOf;rw[hA.facts.2.1]
    obtain⟨d0,d1,d2,d3,d4⟩:=hA.facts
    clear hA hQ hR hBw hPR hop HALL hoj
    obtain⟨q,hq⟩:∃ q,isTk T j 2 wAnd=q:=⟨_,rfl⟩
    have HQT:=Lib.hid hq
    clear hq
    go_wp2_with fail
    refine(rcis_any (HTK.out _ HB.out) j 2 ⟨#[97,110,100]⟩).mono ?_
    rw[show isTk T j 2 ⟨#[97,110,100]⟩ = q from HQT.out]
    rintro e wb ⟨rfl,hb⟩
    have HAb:=Lib.hid (HA.out.below hb);have HQb:=Lib.hid (HQ.out.below hb);have HRb:=Lib.hid (owns_below HR.out hb);have HBb:=Lib.hid (HB.out.trans (hb.mono HB.out.size))
    have hbs:=hb.size
    clear hb d0 d1 d2 d3 d4 HA HQ HR HB
    obtain⟨d0,d1,d2,d3,d4⟩:=HAb.out.facts
    have hlb9:=HAb.out.lt
    cases q
    · have HROW:Hid (rowsP T one wAnd 16 i=.ok out j):=by
       unfold Hid
       rw[HPR.out]
       cases k with
       | zero=>rfl
       | succ k=>rw[rowP,HQT.out];rfl
      obtain⟨c0,c1,c2,c3,c4⟩:=HQb.out.facts
      obtain⟨z0,z1,z2,z3,z4⟩:=HQb.out.free
      have hltq:=HQb.out.lt
      have HE:=Lib.hid (HQb.out.stored (.slice (some ⟨g,0,none⟩) out.length cap) j 0 0 0).facts
      have HOWN:=Lib.hid (HQb.out.row HRb.out (by decide) (.slice (some ⟨g,0,none⟩) out.length cap) j 0 0 0)
      go_wp2
      obtain⟨e0,e1,e2,e3,e4⟩:=HE.out
      refine bodyPost_ret (v:=.agg #[.slice (some ⟨g,0,none⟩) out.length cap,.int .i64 j,.int .i64 0,.int .i64 0,.int .i64 0]) (by simp[results,Tryz.results105,go_sem,e0,e1,e2,e3,e4]) rfl ?_
      exact RPost.good HROW.out rfl rfl HOWN.out (below_tok HBb.out (Nat.le_refl _) _ _ _ _ _)
    · have hin:=isTk_in HQT.out (by decide)
      obtain⟨k,rfl⟩:∃ k',k=k'+1:=⟨k - 1,by omega⟩
      cases hp2:one (j+1) with
      | bad er l c=>
        have HROW:Hid (rowsP T one wAnd 16 i=.bad er l c):=by unfold Hid;rw[HPR.out,rowP,HQT.out,if_pos rfl,hp2];rfl
        have HE2:=Lib.hid hp2
        clear hp2
        go_wp2_with fail
        refine(HC.out _ (HTK.out _ HBb.out) (Nat.le_trans hB HBb.out.size) (j+1) (by omega) (by omega)).mono ?_
        rw[HE2.out]
        rintro e wc ⟨av,h0,rfl,hb⟩
        have H0:=Lib.hid h0
        have ne: (er == 0)=false:=beq_eq_false_iff_ne.2 h0
        have ne2: (er !=0)=true:=by simp[bne,ne]
        have HBx:=Lib.hid ((HBb.out.trans (hb.mono HBb.out.size)).alloc (Nat.le_trans HBb.out.size hb.size) (.cells #[.slice none 0 0,.int .i64 av,.int .i64 er,.int .i64 l,.int .i64 c] 117))
        have hq3:=(HQb.out.below hb).alloc (.cells #[.slice none 0 0,.int .i64 av,.int .i64 er,.int .i64 l,.int .i64 c] 117)
        have ha3:=(show PrB (wc.alloc (.cells #[.slice none 0 0,.int .i64 av,.int .i64 er,.int .i64 l,.int .i64 c] 117)) wc.heap.size (.slice none 0 0) av er l c from heap_alloc_new wc _)
        have m2:=ha3.facts.2.2.1
        clear hb h0 d0 d1 d2 d3 d4
        go_upto_if 36 with fail
        obtain⟨WW,hWW⟩:∃ W,wc.alloc (.cells #[.slice none 0 0,.int .i64 av,.int .i64 er,.int .i64 l,.int .i64 c] 117)=W:=⟨_,rfl⟩
        rw[hWW] at hq3 ha3 HBx ⊢
        clear hWW m2
        obtain⟨m0,m1,m2,m3,m4⟩:=ha3.facts
        obtain⟨c0,c1,c2,c3,c4⟩:=hq3.facts
        obtain⟨z0,z1,z2,z3,z4⟩:=hq3.free
        have hlt3:=hq3.lt
        have HE:=Lib.hid (hq3.stored (.slice none 0 0) av er l c).facts
        clear hq3 ha3
        go_wp2
        obtain⟨e0,e1,e2,e3,e4⟩:=HE.out
        refine bodyPost_ret (v:=.agg #[.slice none 0 0,.int .i64 av,.int .i64 er,.int .i64 l,.int .i64 c]) (by simp[results,Tryz.results105,go_sem,e0,e1,e2,e3,e4]) rfl ?_
        exact RPost.fault (HROW.out) av H0.out rfl (below_tok HBx.out (Nat.le_refl _) _ _ _ _ _)
      | ok o2 a2=>
        have hg2:=HG.out _ _ _ hp2
        have HN2:=Lib.hid (HFL.out _ _ _ hp2)
        have HL2:=Lib.hid (show o2.length≤1000000 by omega)
        obtain⟨x,hx⟩:∃ x,tkAt T j=x:=⟨_,rfl⟩
        have HROW:Hid (rowsP T one wAnd 16 i=rowP T one wAnd 16 k a2 (out ++o2 ++ [⟨16,⟨#[]⟩,0,⟨#[]⟩,0,⟨#[]⟩,⟨#[]⟩,x.line,x.col⟩])):=by unfold Hid;rw[HPR.out,rowP,HQT.out,if_pos rfl,hp2,hx];rfl
        have HX:=Lib.hid hx
        have hfx3:∀ w:World,(Instr.field 48 (.agg #[.int .i64 x.kind,.string x.text,.int .i64 x.num,.int .i64 x.line,.int .i64 x.col]) 3).run Tryz.prog w=.ok (.agg #[.int .i64 x.line,.int .i64 x.col]) w:=fun _=>by kernel_rfl
        have HE2:=Lib.hid hp2
        clear hp2 hx
        go_wp2_with fail
        refine(HC.out _ (HTK.out _ HBb.out) (Nat.le_trans hB HBb.out.size) (j+1) (by omega) (by omega)).mono ?_
        rw[HE2.out]
        rintro e wc ⟨g2,cap2,rfl,hrow,hb⟩
        have HBc:=Lib.hid ((HBb.out.trans (hb.mono HBb.out.size)).alloc (Nat.le_trans HBb.out.size hb.size) (.cells #[.slice (some ⟨g2,0,none⟩) o2.length cap2,.int .i64 a2,.int .i64 0,.int .i64 0,.int .i64 0] 117))
        have HQc:=Lib.hid ((HQb.out.below hb).alloc (.cells #[.slice (some ⟨g2,0,none⟩) o2.length cap2,.int .i64 a2,.int .i64 0,.int .i64 0,.int .i64 0] 117))
        have HAc:=Lib.hid ((HAb.out.below hb).alloc (.cells #[.slice (some ⟨g2,0,none⟩) o2.length cap2,.int .i64 a2,.int .i64 0,.int .i64 0,.int .i64 0] 117))
        have HCc:=Lib.hid (show PrB (wc.alloc (.cells #[.slice (some ⟨g2,0,none⟩) o2.length cap2,.int .i64 a2,.int .i64 0,.int .i64 0,.int .i64 0] 117)) wc.heap.size (.slice (some ⟨g2,0,none⟩) o2.length cap2) a2 0 0 0 from heap_alloc_new wc _)
        have HRc:=Lib.hid (owns_alloc (owns_below HRb.out hb) (.cells #[.slice (some ⟨g2,0,none⟩) o2.length cap2,.int .i64 a2,.int .i64 0,.int .i64 0,.int .i64 0] 117))
        have HRd:=Lib.hid (owns_alloc hrow (.cells #[.slice (some ⟨g2,0,none⟩) o2.length cap2,.int .i64 a2,.int .i64 0,.int .i64 0,.int .i64 0] 117))
        have hl9c:=(HAb.out.below hb).lt
        have hlqc:=(HQb.out.below hb).lt
        have m2:=HCc.out.facts.2.2.1
        clear hb hrow d0 d1 d2 d3 d4
        go_upto_if 36 with fail
        obtain⟨WW,hWW⟩:∃ W,wc.alloc (.cells #[.slice (some ⟨g2,0,none⟩) o2.length cap2,.int .i64 a2,.int .i64 0,.int .i64 0,.int .i64 0] 117)=W:=⟨_,rfl⟩
        rw[hWW] at HBc HQc HAc HCc HRc HRd ⊢
        clear hWW m2
        go_wp2
        obtain⟨n0,n1,n2,n3,n4⟩:=HCc.out.drew.facts
        obtain⟨r0,r1,r2,r3,r4⟩:=HAc.out.drew.facts
        have hlW:=HCc.out.lt;have hlA:=HAc.out.lt;have hlQ:=HQc.out.lt
        have hsW:=HBc.out.size
        rw[ldA_is,ldT_is]
        first
        | (go_region_held3 (fun w'=>w'.cell? ⟨wc.heap.size,0,none⟩ = some (.slice (some ⟨g2,0,none⟩) o2.length cap2)∧w'.cell? ⟨wc.heap.size,1,none⟩ = some (.int .i64 a2)∧w'.cell? ⟨wc.heap.size,2,none⟩ = some (.int .i64 0)∧w'.cell? ⟨wc.heap.size,3,none⟩ = some (.int .i64 0)∧w'.cell? ⟨wc.heap.size,4,none⟩ = some (.int .i64 0))
            (first| (with_reducible exact⟨n0,n1,n2,n3,n4⟩)| (with_reducible exact⟨m0,m1,m2,m3,m4⟩)| (with_reducible exact⟨f0,f1,f2,f3,f4⟩)| (with_reducible exact⟨t0,t1,t2,t3,t4⟩)| (trace_state;fail))
            (first
              | (go_simp;go_at_call 91;(with_reducible refine(rctok_any (HTK.out _ HBc.out.drew) j).mono ?_)
                 rintro e w8 ⟨rfl,hb8⟩
                 rw[HX.out]
                 unfold tokV
                 have HB8:=Lib.hid (HBc.out.drew.trans (hb8.mono HBc.out.drew.size))
                 have HQ8:=Lib.hid (HQc.out.drew.below hb8)
                 have ha8:=HAc.out.drew.below hb8
                 have hc8:=HCc.out.drew.below hb8
                 obtain⟨s0,s1,s2,s3,s4⟩:=ha8.facts
                 obtain⟨m0,m1,m2,m3,m4⟩:=hc8.facts
                 have HA8:=Lib.hid ha8;have HC8:=Lib.hid hc8
                 have HR18:=Lib.hid (owns_below HRc.out.drew hb8)
                 have HR28:=Lib.hid (owns_below HRd.out.drew hb8)
                 have hl8:=HC8.out.lt
                 clear hb8 ha8 hc8)
              | (go_simp;go_at_call 107;have hal:=also_two HR18.out HR28.out HOP.out HN2.out HOL.out HL2.out j 0 0 0 a2 0 0 0 (⟨16,⟨#[]⟩,0,⟨#[]⟩,0,⟨#[]⟩,⟨#[]⟩,x.line,x.col⟩:It)
                 dsimp only at hal
                 (with_reducible refine Calls.mono hal ?_)
                 clear hal
                 rintro e w9 ⟨g9,cap9,rfl,hown9,hb9⟩
                 have HB9:=Lib.hid (HB8.out.trans (hb9.mono HB8.out.size))
                 have hq9:=HQ8.out.below hb9
                 have ha9:=HA8.out.below hb9
                 have hc9:=HC8.out.below hb9
                 obtain⟨c0,c1,c2,c3,c4⟩:=ha9.facts
                 obtain⟨z0,z1,z2,z3,z4⟩:=ha9.free
                 have hlt9:=ha9.lt
                 obtain⟨f0,f1,f2,f3,f4⟩:=hc9.facts
                 obtain⟨t0,t1,t2,t3,t4⟩:=(((((hc9.over (k:=b9) (j:=0) (by omega) (.slice (some ⟨g9,0,none⟩) (out.length+o2.length+1) cap9)).over (k:=b9) (j:=1) (by omega) (.int .i64 a2)).over (k:=b9) (j:=2) (by omega) (.int .i64 0)).over (k:=b9) (j:=3) (by omega) (.int .i64 0)).over (k:=b9) (j:=4) (by omega) (.int .i64 0)).facts
                 have hsz9:=HB8.out.size
                 have HA9:=Lib.hid (ha9.stored (.slice (some ⟨g9,0,none⟩) (out.length+o2.length+1) cap9) a2 0 0 0)
                 have HQ9:=Lib.hid (((((hq9.over (k:=b9) (j:=0) (by omega) (.slice (some ⟨g9,0,none⟩) (out.length+o2.length+1) cap9)).over (k:=b9) (j:=1) (by omega) (.int .i64 a2)).over (k:=b9) (j:=2) (by omega) (.int .i64 0)).over (k:=b9) (j:=3) (by omega) (.int .i64 0)).over (k:=b9) (j:=4) (by omega) (.int .i64 0))
                 have HOWN:=Lib.hid (ha9.row (owns_mono hown9 (show w.heap.size≤w8.heap.size by omega)) (by decide) (.slice (some ⟨g9,0,none⟩) (out.length+o2.length+1) cap9) a2 0 0 0)
                 clear hown9 hb9 ha9 hq9 hc9)))
        | fail
        all_goals
         go_wp2
         go_roundw
         case rel=>
          refine⟨k,a2,out ++o2 ++ [⟨16,⟨#[]⟩,0,⟨#[]⟩,0,⟨#[]⟩,⟨#[]⟩,x.line,x.col⟩],g9,cap9,?_⟩
          rw[show(out ++o2 ++ [(⟨16,⟨#[]⟩,0,⟨#[]⟩,0,⟨#[]⟩,⟨#[]⟩,x.line,x.col⟩:It)]).length=out.length+o2.length+1 by simp;omega]
          exact⟨HA9.out,HQ9.out,HOWN.out,below_tok HB9.out (by omega) _ _ _ _ _,HROW.out,by omega,by omega,by omega,by have:=HOJ.out;omega,by omega⟩
         case measure=>
          rw[posOf_is HA9.out,hpos.out];omega
end Go.Proofs.YthlofmnmacpogaaGreatDoor
namespace Go.Proofs.YthlofmnmacpogaaGreatDoor
open Go.RowKit
def TlB (w:World) (b:Nat):Prop:=w.heap[b]?=some (.cells #[.string ⟨#[116,114,117,101]⟩,.string ⟨#[102,97,108,115,101]⟩,.string ⟨#[99,111,109,112,108,101,116,101]⟩,.string ⟨#[115,116,117,99,107]⟩] 9 (0,0))
theorem TlB.reads {w:World} {b:Nat} (h:TlB w b):Reads w (.slice (some ⟨b,0,none⟩) 4 4) (strs trueL):=blk_reads h 4 (by decide)
def OlB (w:World) (b:Nat):Prop:=w.heap[b]?=some (.cells #[.string ⟨#[111,112,101,110]⟩,.string ⟨#[100,111,110,101]⟩,.string ⟨#[99,97,110]⟩,.string ⟨#[100,105,100]⟩] 9 (0,0))
theorem OlB.reads {w:World} {b:Nat} (h:OlB w b):Reads w (.slice (some ⟨b,0,none⟩) 4 4) (strs openL):=blk_reads h 4 (by decide)
end Go.Proofs.YthlofmnmacpogaaGreatDoor
