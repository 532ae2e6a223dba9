/- A part of a proof of DeclReadsProof. -/
import Derived.Test.YthlofmnmacpogaaGreatDoorRt31
import Derived.Test.YthlofmnmacpogaaGreatDoorRt28
import Derived.Test.YthlofmnmacpogaaGreatDoorRt29
import Derived.Test.YthlofmnmacpogaaGreatDoorRt26
import Derived.Deep.DeepCutAuto
import Derived.Test.YthlofmnmacpogaaGreatDoorRt15
set_option maxRecDepth 100000
set_option maxHeartbeats 40000000
namespace Go.Proofs.YthlofmnmacpogaaGreatDoor
open Go.RowKit
theorem rsign_succ (n:Nat) (hn:n≤24) (hf:RFormOK n) (hs:RSignOK n):RSignOK (n+1):=by
 intro w B lv T i prop d h hB hlo hhi hd
 have hd':d=24 - (n:Int):=by omega
 show Calls _ _ _ _ (RPost w (signP T prop (bothP T prop n).1 (bothP T prop n).2 i))
 rw[←rsign_is]
 unfold rsignP
 by_cases ho:isTk T i 4 sOpen=true
 · rw[if_pos ho]
   exact rsign_open n hn h hB i hlo hhi d hd' prop hf ho
 rw[if_neg ho]
 rw[Bool.not_eq_true] at ho
 by_cases hk2: (tkAt T i).kind≠2
 · rw[if_pos hk2]
   exact rsign_comp n hn h hB i hlo hhi d hd' prop ho hk2
 rw[if_neg hk2]
 have hkind: (tkAt T i).kind=2:=by omega
 have hr:=idxP_range notL (tkAt T i).text
 simp only[show((notL.length:Nat):Int)=9 from rfl] at hr
 obtain⟨k,hk⟩:∃ k,idxP notL (tkAt T i).text=k:=⟨_,rfl⟩
 rw[hk] at hr ⊢
 dsimp only
 by_cases h0:k < 0
 · rw[if_pos h0]
   have:k= -1:=by omega
   exact rsign_atom n hn h hB i hlo hhi d hd' prop ho hkind (hk.trans this)
 rw[if_neg h0]
 by_cases h1:0 < k∧prop=false
 · rw[if_pos h1]
   obtain⟨h1,rfl⟩:=h1
   exact rsign_not n hn h hB i d hd' ho hkind k hk h1
 rw[if_neg h1]
 by_cases hk0:k=0
 · subst hk0
   rw[if_neg (by omega),if_pos rfl]
   exact rsign_op0 n hn h hB i hlo hhi d hd' prop hs ho hkind hk
 have hp:prop=true:=by cases prop;exact absurd ⟨by omega,rfl⟩ h1;rfl
 subst hp
 have h9:k=1∨k=2∨k=3∨k=4∨k=5∨k=6∨k=7∨k=8:=by omega
 rcases h9 with rfl|rfl|rfl|rfl|rfl|rfl|rfl|rfl
 · rw[if_neg (by omega),if_neg (by omega)]
   exact rsign_op1 n hn h hB i hlo hhi d hd' hs ho hkind hk
 · rw[if_neg (by omega),if_neg (by omega)]
   exact rsign_op2 n hn h hB i hlo hhi d hd' hs ho hkind hk
 · rw[if_neg (by omega),if_neg (by omega)]
   exact rsign_op3 n hn h hB i hlo hhi d hd' hs ho hkind hk
 · rw[if_neg (by omega),if_neg (by omega)]
   exact rsign_op4 n hn h hB i hlo hhi d hd' hs ho hkind hk
 · rw[if_neg (by omega),if_neg (by omega)]
   exact rsign_op5 n hn h hB i hlo hhi d hd' hs ho hkind hk
 · rw[if_neg (by omega),if_neg (by omega)]
   exact rsign_op6 n hn h hB i hlo hhi d hd' hs ho hkind hk
 · rw[if_pos (by omega)]
   exact rsign_until7 n hn h hB i hhi d hd' hf ho hkind hk
 · rw[if_pos (by omega)]
   exact rsign_until8 n hn h hB i hhi d hd' hf ho hkind hk
def ldFA:Op:=Op.load 117 (Operand.tmp 9)
theorem ldFA_is:Op.load 117 (Operand.tmp 9)=ldFA:=rfl
def ldFT:Op:=Op.load 3 (Operand.tmp 42)
theorem ldFT_is:Op.load 3 (Operand.tmp 42)=ldFT:=rfl
attribute [local go_sem] ldFA ldFT
theorem rform_walk {w:World} {B:Nat} {lv:Value} {T:List Tk} (h:TkIn w B lv T) (hB:B≤w.heap.size) (i:Int) (hlo:-9223372036854775808≤i) (hhi:i≤1000000) (prop:Bool) (d:Int) (hd0:0≤d) (hd25:d≤25) (one form:Int→PR)
 (HC:∀ W,TkIn W B lv T→B≤W.heap.size→∀ i,-9223372036854775808≤i→i≤1000000→Calls Tryz.prog 105 #[lv,.int .i64 i,.int .i64 d,.bool prop] W (RPost W (one i)))
 (hd24: (∃ i o a,one i=.ok o a)→d≤24)
 (HF:d≤24→∀ W,TkIn W B lv T→B≤W.heap.size→∀ i,-9223372036854775808≤i→i≤1000000→Calls Tryz.prog 90 #[lv,.int .i64 i,.int .i64 (d+1),.bool prop] W (RPost W (form i)))
 (HG:Good T one) (HFL:Full one) (HGF:Good T form) (HFF:Full form) :
 Calls Tryz.prog 90 #[lv,.int .i64 i,.int .i64 d,.bool prop] w (RPost w ((rowsP T one wOr 17 i).also fun o a=>if isTk T a 2 wImplies then(form (a+1)).also fun o2 b=>.ok (o ++o2 ++ [item 18 (tkAt T a)]) b else .ok o a)):=by
 have hTl:=h.len
 have HTK:Hid (∀ W,Below w.heap.size w W→TkIn W B lv T):=fun W hW=>h.below (hW.mono hB)
 have HB0:=Lh ((Below.refl w.heap.size w).alloc (Nat.le_refl _) oB6)
 have HQ:=Lh (show PrB (w.alloc oB6) w.heap.size (.slice none 0 0) 0 0 0 0 from heap_alloc_new w _)
 replace HF:=Lh HF;replace hd24:=Lh hd24;replace HGF:=Lh HGF;replace HFF:=Lh HFF
 replace HG:=Lh HG;replace HFL:=Lh HFL;replace HC:=Lh HC
 clear h
 cases hp1:one i with
 | bad er l c=>
   have HE1:=Lh hp1
   have HPR:Hid (rowsP T one wOr 17 i=.bad er l c):=by unfold Hid rowsP;exact also_of_bad hp1
   clear hp1
   go_enter Tryz.func90,Tryz.ntmps90
   go_wp2_with fail
   refine(HC.out _ (HTK.out _ HB0.out) (Nat.le_trans hB HB0.out.size) i hlo hhi).mono ?_
   rw[HE1.out]
   rintro e w2 ⟨av,h0,rfl,hb⟩
   have H0:=Lh h0
   have ne: (er == 0)=false:=beq_eq_false_iff_ne.2 h0
   have ne2: (er !=0)=true:=by simp[bne,ne]
   have HBx:=Lh ((HB0.out.trans (hb.mono HB0.out.size)).alloc (Nat.le_trans HB0.out.size hb.size) (.cells #[.slice none 0 0,.int .i64 av,.int .i64 er,.int .i64 l,.int .i64 c] 117))
   have hq3:=(HQ.out.below hb).alloc (.cells #[.slice none 0 0,.int .i64 av,.int .i64 er,.int .i64 l,.int .i64 c] 117)
   have ha3:=(show PrB (w2.alloc (.cells #[.slice none 0 0,.int .i64 av,.int .i64 er,.int .i64 l,.int .i64 c] 117)) w2.heap.size (.slice none 0 0) av er l c from heap_alloc_new w2 _)
   have HQ3:=Lh hq3;have HA3:=Lh ha3
   clear hb h0 hq3 ha3
   go_wp2
   go_loopw [10] (fun _ wr=>wr=w2.alloc (.cells #[.slice none 0 0,.int .i64 av,.int .i64 er,.int .i64 l,.int .i64 c] 117)) (fun _ _=>0)
   case atStart=>rfl
   case round=>
    subst hrel
    obtain⟨WW,hWW⟩:∃ W,w2.alloc (.cells #[.slice none 0 0,.int .i64 av,.int .i64 er,.int .i64 l,.int .i64 c] 117)=W:=⟨_,rfl⟩
    rw[hWW] at HQ3 HA3 HBx ⊢
    clear hWW
    obtain⟨d0,d1,d2,d3,d4⟩:=HA3.out.facts
    obtain⟨c0,c1,c2,c3,c4⟩:=HQ3.out.facts
    obtain⟨z0,z1,z2,z3,z4⟩:=HQ3.out.free
    have hlt3:=HQ3.out.lt
    have HE:=Lh (HQ3.out.stored (.slice none 0 0) av er l c).facts
    go_wp2
    obtain⟨e0,e1,e2,e3,e4⟩:=HE.out
    refine bodyPost_ret (v:=.agg #[.slice none 0 0,.int .i64 av,.int .i64 er,.int .i64 l,.int .i64 c]) (by simp[results,Tryz.results90,go_sem,e0,e1,e2,e3,e4]) rfl ?_
    exact RPost.fault (also_of_bad HPR.out) av H0.out rfl (below_tok HBx.out (Nat.le_refl _) _ _ _ _ _)
 | ok o1 a1=>
   have hg1:=HG.out _ _ _ hp1
   replace hd24:=hd24.out ⟨_,_,_,hp1⟩
   replace HF:=Lh (HF.out hd24)
   have hf1:=HFL.out _ _ _ hp1
   have HE1:=Lh hp1
   have HPR:Hid (rowsP T one wOr 17 i=rowP T one wOr 17 (T.length+1) a1 o1):=by unfold Hid rowsP;exact also_of_ok hp1
   clear hp1
   go_enter Tryz.func90,Tryz.ntmps90
   go_wp2_with fail
   refine(HC.out _ (HTK.out _ HB0.out) (Nat.le_trans hB HB0.out.size) i hlo hhi).mono ?_
   rw[HE1.out]
   rintro e w2 ⟨g1,cap1,rfl,hrow,hb⟩
   have hB2:=((HB0.out.trans (hb.mono HB0.out.size)).alloc (Nat.le_trans HB0.out.size hb.size) (.cells #[.slice (some ⟨g1,0,none⟩) o1.length cap1,.int .i64 a1,.int .i64 0,.int .i64 0,.int .i64 0] 117))
   have hQ2:=((HQ.out.below hb).alloc (.cells #[.slice (some ⟨g1,0,none⟩) o1.length cap1,.int .i64 a1,.int .i64 0,.int .i64 0,.int .i64 0] 117))
   have hA2:=(show PrB (w2.alloc (.cells #[.slice (some ⟨g1,0,none⟩) o1.length cap1,.int .i64 a1,.int .i64 0,.int .i64 0,.int .i64 0] 117)) w2.heap.size (.slice (some ⟨g1,0,none⟩) o1.length cap1) a1 0 0 0 from heap_alloc_new w2 _)
   have hR2:=(owns_mono (owns_alloc hrow (.cells #[.slice (some ⟨g1,0,none⟩) o1.length cap1,.int .i64 a1,.int .i64 0,.int .i64 0,.int .i64 0] 117)) HB0.out.size)
   have hlt2:=(HQ.out.below hb).lt
   have HB2:=Lh hB2;have HQ2:=Lh hQ2;have HA2:=Lh hA2;have HR2:=Lh hR2
   clear hb hrow hB2 hQ2 hA2 hR2
   go_wp2
   obtain⟨b9,hb9⟩:∃ b,w2.heap.size=b:=⟨_,rfl⟩
   rw[hb9] at HA2 hlt2
   simp only[hb9]
   clear HB0 HQ
   go_loopw [10] (fun _ wr=>∃ (k:Nat) (j:Int) (out:List It) (g cap:Nat),Hid (PrB wr b9 (.slice (some ⟨g,0,none⟩) out.length cap) j 0 0 0∧PrB wr w.heap.size (.slice none 0 0) 0 0 0 0∧wr.ownsRow w.heap.size 87 9 (.slice (some ⟨g,0,none⟩) out.length cap) out.length (itFlat out)∧Below w.heap.size w wr∧
    rowsP T one wOr 17 i=rowP T one wOr 17 k j out∧1≤j∧j≤T.length∧(T.length:Int) < j+k∧(out.length:Int)≤j∧0 < out.length)) (fun _ wr=>T.length+1 - posOf wr b9)
   case atStart=>exact⟨T.length+1,a1,o1,g1,cap1,HA2.out,HQ2.out,HR2.out,HB2.out,HPR.out,by omega,by omega,by omega,by omega,hf1⟩
   case round=>
    clear HB2 HQ2 HA2 HR2 hg1 hf1 HPR HE1
    obtain⟨k,j,out,g,cap,HALL⟩:=hrel
    obtain⟨hA,hQ,hR,hBw,hPR,hj1,hjT,hjk,hoj,hop⟩:=HALL.out
    have HA:=Lh hA;have HQ:=Lh hQ;have HR:=Lh hR;have HB:=Lh hBw;have HPR:=Lh hPR;have HOP:=Lh hop
    have HOL:=Lh (show out.length≤1000000 by omega)
    have HOJ:=Lh hoj
    have hpos:Hid (posOf wr b9=j.toNat):=by unfold Hid posOf;rw[hA.facts.2.1]
    obtain⟨d0,d1,d2,d3,d4⟩:=hA.facts
    clear hA hQ hR hBw hPR hop HALL hoj
    obtain⟨q,hq⟩:∃ q,isTk T j 2 wOr=q:=⟨_,rfl⟩
    have HQT:=Lh hq
    clear hq
    go_wp2_with fail
    refine(rcis_any (HTK.out _ HB.out) j 2 ⟨#[111,114]⟩).mono ?_
    rw[show isTk T j 2 ⟨#[111,114]⟩ = q from HQT.out]
    rintro e wb ⟨rfl,hb⟩
    have HAb:=Lh (HA.out.below hb);have HQb:=Lh (HQ.out.below hb);have HRb:=Lh (owns_below HR.out hb);have HBb:=Lh (HB.out.trans (hb.mono HB.out.size))
    have hbs:=hb.size
    clear hb d0 d1 d2 d3 d4 HA HQ HR HB
    obtain⟨d0,d1,d2,d3,d4⟩:=HAb.out.facts
    have hlb9:=HAb.out.lt
    cases q
    · have HROW:Hid (rowsP T one wOr 17 i=.ok out j):=by
       unfold Hid
       rw[HPR.out]
       cases k with
       | zero=>rfl
       | succ k=>rw[rowP,HQT.out];rfl
      obtain⟨q2,hq2⟩:∃ q,isTk T j 2 wImplies=q:=⟨_,rfl⟩
      have HQI:=Lh hq2
      clear hq2
      go_wp2_with fail
      refine(rcis_any (HTK.out _ HBb.out) j 2 ⟨#[105,109,112,108,105,101,115]⟩).mono ?_
      rw[show isTk T j 2 ⟨#[105,109,112,108,105,101,115]⟩ = q2 from HQI.out]
      rintro e wi ⟨rfl,hb⟩
      have HAi:=Lh (HAb.out.below hb);have HQi:=Lh (HQb.out.below hb);have HRi:=Lh (owns_below HRb.out hb);have HBi:=Lh (HBb.out.trans (hb.mono HBb.out.size))
      have hbsi:=hb.size
      clear hb d0 d1 d2 d3 d4 HAb HQb HRb HBb
      obtain⟨d0,d1,d2,d3,d4⟩:=HAi.out.facts
      have hlbi:=HAi.out.lt
      cases q2
      · have HP:Hid (((rowsP T one wOr 17 i).also fun o a=>if isTk T a 2 wImplies then(form (a+1)).also fun o2 b=>.ok (o ++o2 ++ [item 18 (tkAt T a)]) b else .ok o a)=.ok out j):=by unfold Hid;rw[also_of_ok HROW.out,HQI.out];rfl
        obtain⟨c0,c1,c2,c3,c4⟩:=HQi.out.facts
        obtain⟨z0,z1,z2,z3,z4⟩:=HQi.out.free
        have hltq:=HQi.out.lt
        have HE:=Lh (HQi.out.stored (.slice (some ⟨g,0,none⟩) out.length cap) j 0 0 0).facts
        have HOWN:=Lh (HQi.out.row HRi.out (by decide) (.slice (some ⟨g,0,none⟩) out.length cap) j 0 0 0)
        go_wp2
        obtain⟨e0,e1,e2,e3,e4⟩:=HE.out
        refine bodyPost_ret (v:=.agg #[.slice (some ⟨g,0,none⟩) out.length cap,.int .i64 j,.int .i64 0,.int .i64 0,.int .i64 0]) (by simp[results,Tryz.results90,go_sem,e0,e1,e2,e3,e4]) rfl ?_
        exact RPost.good HP.out rfl rfl HOWN.out (below_tok HBi.out (Nat.le_refl _) _ _ _ _ _)
      · have hin:=isTk_in HQI.out (by decide)
        cases hp3:form (j+1) with
        | bad er l c=>
          have HP:Hid (((rowsP T one wOr 17 i).also fun o a=>if isTk T a 2 wImplies then(form (a+1)).also fun o2 b=>.ok (o ++o2 ++ [item 18 (tkAt T a)]) b else .ok o a)=.bad er l c):=by unfold Hid;rw[also_of_ok HROW.out,HQI.out,if_pos rfl,hp3];rfl
          have HE3:=Lh hp3
          clear hp3
          go_wp2_with fail
          refine(HF.out _ (HTK.out _ HBi.out) (Nat.le_trans hB HBi.out.size) (j+1) (by omega) (by omega)).mono ?_
          rw[HE3.out]
          rintro e wc ⟨av,h0,rfl,hb⟩
          have H0:=Lh h0
          have ne: (er == 0)=false:=beq_eq_false_iff_ne.2 h0
          have ne2: (er !=0)=true:=by simp[bne,ne]
          have HBx:=Lh ((HBi.out.trans (hb.mono HBi.out.size)).alloc (Nat.le_trans HBi.out.size hb.size) (.cells #[.slice none 0 0,.int .i64 av,.int .i64 er,.int .i64 l,.int .i64 c] 117))
          have hq3:=(HQi.out.below hb).alloc (.cells #[.slice none 0 0,.int .i64 av,.int .i64 er,.int .i64 l,.int .i64 c] 117)
          have ha3:=(show PrB (wc.alloc (.cells #[.slice none 0 0,.int .i64 av,.int .i64 er,.int .i64 l,.int .i64 c] 117)) wc.heap.size (.slice none 0 0) av er l c from heap_alloc_new wc _)
          have m2:=ha3.facts.2.2.1
          clear hb h0 d0 d1 d2 d3 d4
          go_upto_if 71 with fail
          obtain⟨WW,hWW⟩:∃ W,wc.alloc (.cells #[.slice none 0 0,.int .i64 av,.int .i64 er,.int .i64 l,.int .i64 c] 117)=W:=⟨_,rfl⟩
          rw[hWW] at hq3 ha3 HBx ⊢
          clear hWW m2
          obtain⟨m0,m1,m2,m3,m4⟩:=ha3.facts
          obtain⟨c0,c1,c2,c3,c4⟩:=hq3.facts
          obtain⟨z0,z1,z2,z3,z4⟩:=hq3.free
          have hlt3:=hq3.lt
          have HE:=Lh (hq3.stored (.slice none 0 0) av er l c).facts
          clear hq3 ha3
          go_wp2
          obtain⟨e0,e1,e2,e3,e4⟩:=HE.out
          refine bodyPost_ret (v:=.agg #[.slice none 0 0,.int .i64 av,.int .i64 er,.int .i64 l,.int .i64 c]) (by simp[results,Tryz.results90,go_sem,e0,e1,e2,e3,e4]) rfl ?_
          exact RPost.fault HP.out av H0.out rfl (below_tok HBx.out (Nat.le_refl _) _ _ _ _ _)
        | ok o3 a3=>
          have hg3:=HGF.out _ _ _ hp3
          have HN3:=Lh (HFF.out _ _ _ hp3)
          have HL3:=Lh (show o3.length≤1000000 by omega)
          obtain⟨x,hx⟩:∃ x,tkAt T j=x:=⟨_,rfl⟩
          have HP:Hid (((rowsP T one wOr 17 i).also fun o a=>if isTk T a 2 wImplies then(form (a+1)).also fun o2 b=>.ok (o ++o2 ++ [item 18 (tkAt T a)]) b else .ok o a)=.ok (out ++o3 ++ [⟨18,⟨#[]⟩,0,⟨#[]⟩,0,⟨#[]⟩,⟨#[]⟩,x.line,x.col⟩]) a3):=by unfold Hid;rw[also_of_ok HROW.out,HQI.out,if_pos rfl,hp3,hx];rfl
          have HX:=Lh hx
          have hfx3:∀ w:World,(Instr.field 48 (.agg #[.int .i64 x.kind,.string x.text,.int .i64 x.num,.int .i64 x.line,.int .i64 x.col]) 3).run Tryz.prog w=.ok (.agg #[.int .i64 x.line,.int .i64 x.col]) w:=fun _=>by kernel_rfl
          have HE3:=Lh hp3
          clear hp3 hx
          go_wp2_with fail
          refine(HF.out _ (HTK.out _ HBi.out) (Nat.le_trans hB HBi.out.size) (j+1) (by omega) (by omega)).mono ?_
          rw[HE3.out]
          rintro e wc ⟨g3,cap3,rfl,hrow,hb⟩
          have HBc:=Lh ((HBi.out.trans (hb.mono HBi.out.size)).alloc (Nat.le_trans HBi.out.size hb.size) (.cells #[.slice (some ⟨g3,0,none⟩) o3.length cap3,.int .i64 a3,.int .i64 0,.int .i64 0,.int .i64 0] 117))
          have HQc:=Lh ((HQi.out.below hb).alloc (.cells #[.slice (some ⟨g3,0,none⟩) o3.length cap3,.int .i64 a3,.int .i64 0,.int .i64 0,.int .i64 0] 117))
          have HAc:=Lh ((HAi.out.below hb).alloc (.cells #[.slice (some ⟨g3,0,none⟩) o3.length cap3,.int .i64 a3,.int .i64 0,.int .i64 0,.int .i64 0] 117))
          have HCc:=Lh (show PrB (wc.alloc (.cells #[.slice (some ⟨g3,0,none⟩) o3.length cap3,.int .i64 a3,.int .i64 0,.int .i64 0,.int .i64 0] 117)) wc.heap.size (.slice (some ⟨g3,0,none⟩) o3.length cap3) a3 0 0 0 from heap_alloc_new wc _)
          have HRc:=Lh (owns_alloc (owns_below HRi.out hb) (.cells #[.slice (some ⟨g3,0,none⟩) o3.length cap3,.int .i64 a3,.int .i64 0,.int .i64 0,.int .i64 0] 117))
          have HRd:=Lh (owns_alloc hrow (.cells #[.slice (some ⟨g3,0,none⟩) o3.length cap3,.int .i64 a3,.int .i64 0,.int .i64 0,.int .i64 0] 117))
          have hl9c:=(HAi.out.below hb).lt
          have hlqc:=(HQi.out.below hb).lt
          have m2:=HCc.out.facts.2.2.1
          clear hb hrow d0 d1 d2 d3 d4
          go_upto_if 71 with fail
          obtain⟨WW,hWW⟩:∃ W,wc.alloc (.cells #[.slice (some ⟨g3,0,none⟩) o3.length cap3,.int .i64 a3,.int .i64 0,.int .i64 0,.int .i64 0] 117)=W:=⟨_,rfl⟩
          rw[hWW] at HBc HQc HAc HCc HRc HRd ⊢
          clear hWW m2
          go_wp2
          obtain⟨n0,n1,n2,n3,n4⟩:=HAc.out.drew.facts
          obtain⟨n5,n6,n7,n8,n9⟩:=HCc.out.drew.facts
          have hlW:=HCc.out.lt;have hlA:=HAc.out.lt;have hlQ:=HQc.out.lt
          have hsW:=HBc.out.size
          first
          | (go_region_held3 (fun w'=>w'.cell? ⟨b9,0,none⟩ = some (.slice (some ⟨g,0,none⟩) out.length cap)∧w'.cell? ⟨b9,1,none⟩ = some (.int .i64 j)∧w'.cell? ⟨b9,2,none⟩ = some (.int .i64 0)∧w'.cell? ⟨b9,3,none⟩ = some (.int .i64 0)∧w'.cell? ⟨b9,4,none⟩ = some (.int .i64 0)∧w'.cell? ⟨wc.heap.size,0,none⟩ = some (.slice (some ⟨g3,0,none⟩) o3.length cap3)∧w'.cell? ⟨wc.heap.size,1,none⟩ = some (.int .i64 a3)∧w'.cell? ⟨wc.heap.size,2,none⟩ = some (.int .i64 0)∧w'.cell? ⟨wc.heap.size,3,none⟩ = some (.int .i64 0)∧w'.cell? ⟨wc.heap.size,4,none⟩ = some (.int .i64 0))
              (first| (with_reducible exact⟨n0,n1,n2,n3,n4,n5,n6,n7,n8,n9⟩)| (with_reducible exact⟨m0,m1,m2,m3,m4,m5,m6,m7,m8,m9⟩)| (with_reducible exact⟨f0,f1,f2,f3,f4,f5,f6,f7,f8,f9⟩)| (with_reducible exact⟨t0,t1,t2,t3,t4,t5,t6,t7,t8,t9⟩)| (trace_state;fail))
              (first
                | (go_simp;go_at_call 91;(with_reducible refine(rctok_any (HTK.out _ HBc.out.drew) j).mono ?_)
                   rintro e w8 ⟨rfl,hb8⟩
                   rw[HX.out]
                   unfold tokV
                   have HB8:=Lh (HBc.out.drew.trans (hb8.mono HBc.out.drew.size))
                   have HQ8:=Lh (HQc.out.drew.below hb8)
                   have ha8:=HAc.out.drew.below hb8
                   have hc8:=HCc.out.drew.below hb8
                   obtain⟨m0,m1,m2,m3,m4⟩:=ha8.facts
                   obtain⟨m5,m6,m7,m8,m9⟩:=hc8.facts
                   have HA8:=Lh ha8;have HC8:=Lh hc8
                   have HR18:=Lh (owns_below HRc.out.drew hb8)
                   have HR28:=Lh (owns_below HRd.out.drew hb8)
                   have hl8:=HC8.out.lt
                   clear hb8 ha8 hc8)
                | (go_simp;go_at_call 107;have hal:=also_two HR18.out HR28.out HOP.out HN3.out HOL.out HL3.out j 0 0 0 a3 0 0 0 (⟨18,⟨#[]⟩,0,⟨#[]⟩,0,⟨#[]⟩,⟨#[]⟩,x.line,x.col⟩:It)
                   dsimp only at hal
                   (with_reducible refine Calls.mono hal ?_)
                   clear hal
                   rintro e w9 ⟨g9,cap9,rfl,hown9,hb9⟩
                   have HB9:=Lh (HB8.out.trans (hb9.mono HB8.out.size))
                   have hq9:=HQ8.out.below hb9
                   have ha9:=HA8.out.below hb9
                   have hc9:=HC8.out.below hb9
                   obtain⟨c0,c1,c2,c3,c4⟩:=hq9.facts
                   obtain⟨z0,z1,z2,z3,z4⟩:=hq9.free
                   have hlt9:=hq9.lt
                   obtain⟨f0,f1,f2,f3,f4⟩:=ha9.facts
                   obtain⟨f5,f6,f7,f8,f9⟩:=hc9.facts
                   obtain⟨t0,t1,t2,t3,t4⟩:=(((((ha9.over (k:=w.heap.size) (j:=0) (by omega) (.slice (some ⟨g9,0,none⟩) (out.length+o3.length+1) cap9)).over (k:=w.heap.size) (j:=1) (by omega) (.int .i64 a3)).over (k:=w.heap.size) (j:=2) (by omega) (.int .i64 0)).over (k:=w.heap.size) (j:=3) (by omega) (.int .i64 0)).over (k:=w.heap.size) (j:=4) (by omega) (.int .i64 0)).facts
                   obtain⟨t5,t6,t7,t8,t9⟩:=(((((hc9.over (k:=w.heap.size) (j:=0) (by omega) (.slice (some ⟨g9,0,none⟩) (out.length+o3.length+1) cap9)).over (k:=w.heap.size) (j:=1) (by omega) (.int .i64 a3)).over (k:=w.heap.size) (j:=2) (by omega) (.int .i64 0)).over (k:=w.heap.size) (j:=3) (by omega) (.int .i64 0)).over (k:=w.heap.size) (j:=4) (by omega) (.int .i64 0)).facts
                   have hsz9:=HB8.out.size
                   have HE:=Lh (hq9.stored (.slice (some ⟨g9,0,none⟩) (out.length+o3.length+1) cap9) a3 0 0 0).facts
                   have HOWN:=Lh (hq9.row (owns_mono hown9 (show w.heap.size≤w8.heap.size by omega)) (by decide) (.slice (some ⟨g9,0,none⟩) (out.length+o3.length+1) cap9) a3 0 0 0)
                   clear hown9 hb9 ha9 hq9 hc9)))
          | fail
          all_goals
           go_wp2
           obtain⟨e0,e1,e2,e3,e4⟩:=HE.out
           refine bodyPost_ret (v:=.agg #[.slice (some ⟨g9,0,none⟩) (out.length+o3.length+1) cap9,.int .i64 a3,.int .i64 0,.int .i64 0,.int .i64 0]) (by simp[results,Tryz.results90,go_sem,e0,e1,e2,e3,e4]) rfl ?_
           exact RPost.good HP.out (by simp;omega) rfl HOWN.out (below_tok HB9.out (Nat.le_refl _) _ _ _ _ _)
    · have hin:=isTk_in HQT.out (by decide)
      obtain⟨k,rfl⟩:∃ k',k=k'+1:=⟨k - 1,by omega⟩
      cases hp2:one (j+1) with
      | bad er l c=>
        have HROW:Hid (rowsP T one wOr 17 i=.bad er l c):=by unfold Hid;rw[HPR.out,rowP,HQT.out,if_pos rfl,hp2];rfl
        have HE2:=Lh hp2
        clear hp2
        go_wp2_with fail
        refine(HC.out _ (HTK.out _ HBb.out) (Nat.le_trans hB HBb.out.size) (j+1) (by omega) (by omega)).mono ?_
        rw[HE2.out]
        rintro e wc ⟨av,h0,rfl,hb⟩
        have H0:=Lh h0
        have ne: (er == 0)=false:=beq_eq_false_iff_ne.2 h0
        have ne2: (er !=0)=true:=by simp[bne,ne]
        have HBx:=Lh ((HBb.out.trans (hb.mono HBb.out.size)).alloc (Nat.le_trans HBb.out.size hb.size) (.cells #[.slice none 0 0,.int .i64 av,.int .i64 er,.int .i64 l,.int .i64 c] 117))
        have hq3:=(HQb.out.below hb).alloc (.cells #[.slice none 0 0,.int .i64 av,.int .i64 er,.int .i64 l,.int .i64 c] 117)
        have ha3:=(show PrB (wc.alloc (.cells #[.slice none 0 0,.int .i64 av,.int .i64 er,.int .i64 l,.int .i64 c] 117)) wc.heap.size (.slice none 0 0) av er l c from heap_alloc_new wc _)
        have m2:=ha3.facts.2.2.1
        clear hb h0 d0 d1 d2 d3 d4
        go_upto_if 37 with fail
        obtain⟨WW,hWW⟩:∃ W,wc.alloc (.cells #[.slice none 0 0,.int .i64 av,.int .i64 er,.int .i64 l,.int .i64 c] 117)=W:=⟨_,rfl⟩
        rw[hWW] at hq3 ha3 HBx ⊢
        clear hWW m2
        obtain⟨m0,m1,m2,m3,m4⟩:=ha3.facts
        obtain⟨c0,c1,c2,c3,c4⟩:=hq3.facts
        obtain⟨z0,z1,z2,z3,z4⟩:=hq3.free
        have hlt3:=hq3.lt
        have HE:=Lh (hq3.stored (.slice none 0 0) av er l c).facts
        clear hq3 ha3
        go_wp2
        obtain⟨e0,e1,e2,e3,e4⟩:=HE.out
        refine bodyPost_ret (v:=.agg #[.slice none 0 0,.int .i64 av,.int .i64 er,.int .i64 l,.int .i64 c]) (by simp[results,Tryz.results90,go_sem,e0,e1,e2,e3,e4]) rfl ?_
        exact RPost.fault (also_of_bad HROW.out) av H0.out rfl (below_tok HBx.out (Nat.le_refl _) _ _ _ _ _)
      | ok o2 a2=>
        have hg2:=HG.out _ _ _ hp2
        have HN2:=Lh (HFL.out _ _ _ hp2)
        have HL2:=Lh (show o2.length≤1000000 by omega)
        obtain⟨x,hx⟩:∃ x,tkAt T j=x:=⟨_,rfl⟩
        have HROW:Hid (rowsP T one wOr 17 i=rowP T one wOr 17 k a2 (out ++o2 ++ [⟨17,⟨#[]⟩,0,⟨#[]⟩,0,⟨#[]⟩,⟨#[]⟩,x.line,x.col⟩])):=by unfold Hid;rw[HPR.out,rowP,HQT.out,if_pos rfl,hp2,hx];rfl
        have HX:=Lh hx
        have hfx3:∀ w:World,(Instr.field 48 (.agg #[.int .i64 x.kind,.string x.text,.int .i64 x.num,.int .i64 x.line,.int .i64 x.col]) 3).run Tryz.prog w=.ok (.agg #[.int .i64 x.line,.int .i64 x.col]) w:=fun _=>by kernel_rfl
        have HE2:=Lh hp2
        clear hp2 hx
        go_wp2_with fail
        refine(HC.out _ (HTK.out _ HBb.out) (Nat.le_trans hB HBb.out.size) (j+1) (by omega) (by omega)).mono ?_
        rw[HE2.out]
        rintro e wc ⟨g2,cap2,rfl,hrow,hb⟩
        have HBc:=Lh ((HBb.out.trans (hb.mono HBb.out.size)).alloc (Nat.le_trans HBb.out.size hb.size) (.cells #[.slice (some ⟨g2,0,none⟩) o2.length cap2,.int .i64 a2,.int .i64 0,.int .i64 0,.int .i64 0] 117))
        have HQc:=Lh ((HQb.out.below hb).alloc (.cells #[.slice (some ⟨g2,0,none⟩) o2.length cap2,.int .i64 a2,.int .i64 0,.int .i64 0,.int .i64 0] 117))
        have HAc:=Lh ((HAb.out.below hb).alloc (.cells #[.slice (some ⟨g2,0,none⟩) o2.length cap2,.int .i64 a2,.int .i64 0,.int .i64 0,.int .i64 0] 117))
        have HCc:=Lh (show PrB (wc.alloc (.cells #[.slice (some ⟨g2,0,none⟩) o2.length cap2,.int .i64 a2,.int .i64 0,.int .i64 0,.int .i64 0] 117)) wc.heap.size (.slice (some ⟨g2,0,none⟩) o2.length cap2) a2 0 0 0 from heap_alloc_new wc _)
        have HRc:=Lh (owns_alloc (owns_below HRb.out hb) (.cells #[.slice (some ⟨g2,0,none⟩) o2.length cap2,.int .i64 a2,.int .i64 0,.int .i64 0,.int .i64 0] 117))
        have HRd:=Lh (owns_alloc hrow (.cells #[.slice (some ⟨g2,0,none⟩) o2.length cap2,.int .i64 a2,.int .i64 0,.int .i64 0,.int .i64 0] 117))
        have hl9c:=(HAb.out.below hb).lt
        have hlqc:=(HQb.out.below hb).lt
        have m2:=HCc.out.facts.2.2.1
        clear hb hrow d0 d1 d2 d3 d4
        go_upto_if 37 with fail
        obtain⟨WW,hWW⟩:∃ W,wc.alloc (.cells #[.slice (some ⟨g2,0,none⟩) o2.length cap2,.int .i64 a2,.int .i64 0,.int .i64 0,.int .i64 0] 117)=W:=⟨_,rfl⟩
        rw[hWW] at HBc HQc HAc HCc HRc HRd ⊢
        clear hWW m2
        go_wp2
        obtain⟨n0,n1,n2,n3,n4⟩:=HCc.out.drew.facts
        obtain⟨r0,r1,r2,r3,r4⟩:=HAc.out.drew.facts
        have hlW:=HCc.out.lt;have hlA:=HAc.out.lt;have hlQ:=HQc.out.lt
        have hsW:=HBc.out.size
        rw[ldFA_is,ldFT_is]
        first
        | (go_region_held3 (fun w'=>w'.cell? ⟨wc.heap.size,0,none⟩ = some (.slice (some ⟨g2,0,none⟩) o2.length cap2)∧w'.cell? ⟨wc.heap.size,1,none⟩ = some (.int .i64 a2)∧w'.cell? ⟨wc.heap.size,2,none⟩ = some (.int .i64 0)∧w'.cell? ⟨wc.heap.size,3,none⟩ = some (.int .i64 0)∧w'.cell? ⟨wc.heap.size,4,none⟩ = some (.int .i64 0))
            (first| (with_reducible exact⟨n0,n1,n2,n3,n4⟩)| (with_reducible exact⟨m0,m1,m2,m3,m4⟩)| (with_reducible exact⟨f0,f1,f2,f3,f4⟩)| (with_reducible exact⟨t0,t1,t2,t3,t4⟩)| (trace_state;fail))
            (first
              | (go_simp;go_at_call 91;(with_reducible refine(rctok_any (HTK.out _ HBc.out.drew) j).mono ?_)
                 rintro e w8 ⟨rfl,hb8⟩
                 rw[HX.out]
                 unfold tokV
                 have HB8:=Lh (HBc.out.drew.trans (hb8.mono HBc.out.drew.size))
                 have HQ8:=Lh (HQc.out.drew.below hb8)
                 have ha8:=HAc.out.drew.below hb8
                 have hc8:=HCc.out.drew.below hb8
                 obtain⟨s0,s1,s2,s3,s4⟩:=ha8.facts
                 obtain⟨m0,m1,m2,m3,m4⟩:=hc8.facts
                 have HA8:=Lh ha8;have HC8:=Lh hc8
                 have HR18:=Lh (owns_below HRc.out.drew hb8)
                 have HR28:=Lh (owns_below HRd.out.drew hb8)
                 have hl8:=HC8.out.lt
                 clear hb8 ha8 hc8)
              | (go_simp;go_at_call 107;have hal:=also_two HR18.out HR28.out HOP.out HN2.out HOL.out HL2.out j 0 0 0 a2 0 0 0 (⟨17,⟨#[]⟩,0,⟨#[]⟩,0,⟨#[]⟩,⟨#[]⟩,x.line,x.col⟩:It)
                 dsimp only at hal
                 (with_reducible refine Calls.mono hal ?_)
                 clear hal
                 rintro e w9 ⟨g9,cap9,rfl,hown9,hb9⟩
                 have HB9:=Lh (HB8.out.trans (hb9.mono HB8.out.size))
                 have hq9:=HQ8.out.below hb9
                 have ha9:=HA8.out.below hb9
                 have hc9:=HC8.out.below hb9
                 obtain⟨c0,c1,c2,c3,c4⟩:=ha9.facts
                 obtain⟨z0,z1,z2,z3,z4⟩:=ha9.free
                 have hlt9:=ha9.lt
                 obtain⟨f0,f1,f2,f3,f4⟩:=hc9.facts
                 obtain⟨t0,t1,t2,t3,t4⟩:=(((((hc9.over (k:=b9) (j:=0) (by omega) (.slice (some ⟨g9,0,none⟩) (out.length+o2.length+1) cap9)).over (k:=b9) (j:=1) (by omega) (.int .i64 a2)).over (k:=b9) (j:=2) (by omega) (.int .i64 0)).over (k:=b9) (j:=3) (by omega) (.int .i64 0)).over (k:=b9) (j:=4) (by omega) (.int .i64 0)).facts
                 have hsz9:=HB8.out.size
                 have HA9:=Lh (ha9.stored (.slice (some ⟨g9,0,none⟩) (out.length+o2.length+1) cap9) a2 0 0 0)
                 have HQ9:=Lh (((((hq9.over (k:=b9) (j:=0) (by omega) (.slice (some ⟨g9,0,none⟩) (out.length+o2.length+1) cap9)).over (k:=b9) (j:=1) (by omega) (.int .i64 a2)).over (k:=b9) (j:=2) (by omega) (.int .i64 0)).over (k:=b9) (j:=3) (by omega) (.int .i64 0)).over (k:=b9) (j:=4) (by omega) (.int .i64 0))
                 have HOWN:=Lh (ha9.row (owns_mono hown9 (show w.heap.size≤w8.heap.size by omega)) (by decide) (.slice (some ⟨g9,0,none⟩) (out.length+o2.length+1) cap9) a2 0 0 0)
                 clear hown9 hb9 ha9 hq9 hc9)))
        | fail
        all_goals
         go_wp2
         go_roundw
         case rel=>
          refine⟨k,a2,out ++o2 ++ [⟨17,⟨#[]⟩,0,⟨#[]⟩,0,⟨#[]⟩,⟨#[]⟩,x.line,x.col⟩],g9,cap9,?_⟩
          rw[show(out ++o2 ++ [(⟨17,⟨#[]⟩,0,⟨#[]⟩,0,⟨#[]⟩,⟨#[]⟩,x.line,x.col⟩:It)]).length=out.length+o2.length+1 by simp;omega]
          exact⟨HA9.out,HQ9.out,HOWN.out,below_tok HB9.out (by omega) _ _ _ _ _,HROW.out,by omega,by omega,by omega,by have:=HOJ.out;omega,by omega⟩
         case measure=>
          rw[posOf_is HA9.out,hpos.out];omega
theorem rform_zero (hs:RSignOK 0):RFormOK 0:=by
 intro w B lv T i prop d h hB hlo hhi hd
 have hz:∀ i,rowsP T (bothP T prop 0).1 wAnd 16 i=.bad 5 (tkAt T i).line (tkAt T i).col:=fun i=>rfl
 have hk:=rform_walk h hB i hlo hhi prop d (by omega) (by omega) (rowsP T (bothP T prop 0).1 wAnd 16) (fun i=>badP T i 5)
  (fun W hW hBW i h1 h2=>rands_any 0 hs hW hBW i h1 h2 prop d hd)
  (fun⟨i,o,a,h⟩ =>by rw[hz] at h;cases h) (fun h=>absurd h (by omega))
  (rowsP_good (both_good T prop 0).1 wAnd 16) (rowsP_full (both_full T prop 0).1 wAnd 16)
  (both_good T prop 0).2 (both_full T prop 0).2
 exact hk
theorem rform_succ (n:Nat) (hn:n≤24) (hs:RSignOK (n+1)) (hf:RFormOK n):RFormOK (n+1):=by
 intro w B lv T i prop d h hB hlo hhi hd
 exact rform_walk h hB i hlo hhi prop d (by omega) (by omega) (rowsP T (bothP T prop (n+1)).1 wAnd 16) (bothP T prop n).2
  (fun W hW hBW i h1 h2=>rands_any (n+1) hs hW hBW i h1 h2 prop d hd)
  (fun _=>by omega) (fun _ W hW hBW i h1 h2=>hf W B lv T i prop (d+1) hW hBW h1 h2 (by omega))
  (rowsP_good (both_good T prop (n+1)).1 wAnd 16) (rowsP_full (both_full T prop (n+1)).1 wAnd 16)
  (both_good T prop n).2 (both_full T prop n).2
theorem rboth_any:∀ n,n≤25→RSignOK n∧RFormOK n
 | 0,_=>⟨rsign_zero,rform_zero rsign_zero⟩
 | n+1,h=>by
   have ih:=rboth_any n (by omega)
   have hs:=rsign_succ n (by omega) ih.2 ih.1
   exact⟨hs,rform_succ n (by omega) hs ih.2⟩
theorem rread_any {w:World} {B:Nat} {v:Value} {T:List Tk} (h:TkIn w B v T) (hB:B≤w.heap.size) (i:Int) (prop:Bool) (hlo:-9223372036854775808≤i) (hhi:i≤1000000) :
 Calls Tryz.prog 75 #[v,.int .i64 i,.bool prop] w (ReadPost w (readP T prop i)):=by
 have HTK:Hid (∀ W,Below w.heap.size w W→TkIn W B v T):=fun W hW=>h.below (hW.mono hB)
 have HB0:=Lh ((Below.refl w.heap.size w).alloc (Nat.le_refl _) oB3)
 have HQ:=Lh (show FtB (w.alloc oB3) w.heap.size 0 0 0 from heap_alloc_new w _)
 have HFO:=Lh ((rboth_any 25 (by omega)).2 _ B v T i prop 0 (HTK.out _ HB0.out) (Nat.le_trans hB HB0.out.size) hlo hhi (by omega))
 obtain⟨x,hx⟩:∃ x,tkAt T i=x:=⟨_,rfl⟩
 have HX:=Lh hx
 have hfd:∀ w:World,(Instr.field 48 (.agg #[.int .i64 x.kind,.string x.text,.int .i64 x.num,.int .i64 x.line,.int .i64 x.col]) 3).run Tryz.prog w=.ok (.agg #[.int .i64 x.line,.int .i64 x.col]) w:=fun _=>by kernel_rfl
 clear h hx
 cases hp: (bothP T prop 25).2 i with
 | bad er l c=>
   have HU:Hid (readP T prop i=.bad er l c):=by unfold Hid readP;rw[hp]
   have HE1:=Lh hp
   clear hp
   go_enter Tryz.func75,Tryz.ntmps75
   go_wp2_with fail
   refine HFO.out.mono ?_
   rw[HE1.out]
   rintro e w1 ⟨av,h0,rfl,hb⟩
   have ne: (er == 0)=false:=beq_eq_false_iff_ne.2 h0
   have ne2: (er !=0)=true:=by simp[bne,ne]
   have HBx:=Lh ((HB0.out.trans (hb.mono HB0.out.size)).alloc (Nat.le_trans HB0.out.size hb.size) (.cells #[.slice none 0 0,.int .i64 av,.int .i64 er,.int .i64 l,.int .i64 c] 117))
   have hq3:=(HQ.out.below hb).alloc (.cells #[.slice none 0 0,.int .i64 av,.int .i64 er,.int .i64 l,.int .i64 c] 117)
   have ha3:=(show PrB (w1.alloc (.cells #[.slice none 0 0,.int .i64 av,.int .i64 er,.int .i64 l,.int .i64 c] 117)) w1.heap.size (.slice none 0 0) av er l c from heap_alloc_new w1 _)
   have m2:=ha3.facts.2.2.1
   clear hb h0
   go_upto_if 17 with fail
   obtain⟨WW,hWW⟩:∃ W,w1.alloc (.cells #[.slice none 0 0,.int .i64 av,.int .i64 er,.int .i64 l,.int .i64 c] 117)=W:=⟨_,rfl⟩
   rw[hWW] at hq3 ha3 HBx ⊢
   clear hWW m2
   obtain⟨m0,m1,m2,m3,m4⟩:=ha3.facts
   obtain⟨q0,q1,q2⟩:=hq3.facts
   obtain⟨z0,z1,z2⟩:=hq3.free
   have hlt3:=hq3.lt
   have HE:=Lh (hq3.stored er l c).facts
   clear hq3 ha3
   go_wp2
   go_region
   go_wp2
   refine bodyPost_ret (v:=.tuple #[.slice none 0 0,.int .i64 0,.agg #[.int .i64 er,.int .i64 l,.int .i64 c]]) (by simp[results,Tryz.results75,go_sem,q0,q1,q2]) rfl ?_
   rw[HU.out]
   exact⟨rfl,(below_fault HBx.out (Nat.le_refl _) _ _ _).drew⟩
 | ok o a=>
   have HE1:=Lh hp
   by_cases h64:64 < o.length
   · have HU:Hid (readP T prop i=.bad 3 x.line x.col):=by unfold Hid readP;rw[hp];dsimp only;rw[if_pos h64,HX.out]
     have hz64: (64:Int) < (o.length:Int):=by omega
     clear hp
     go_enter Tryz.func75,Tryz.ntmps75
     go_wp2_with fail
     refine HFO.out.mono ?_
     rw[HE1.out]
     rintro e w1 ⟨g1,cap1,rfl,hrow,hb⟩
     have HBx:=Lh ((HB0.out.trans (hb.mono HB0.out.size)).alloc (Nat.le_trans HB0.out.size hb.size) (.cells #[.slice (some ⟨g1,0,none⟩) o.length cap1,.int .i64 a,.int .i64 0,.int .i64 0,.int .i64 0] 117))
     have HQ3:=Lh ((HQ.out.below hb).alloc (.cells #[.slice (some ⟨g1,0,none⟩) o.length cap1,.int .i64 a,.int .i64 0,.int .i64 0,.int .i64 0] 117))
     have ha3:=(show PrB (w1.alloc (.cells #[.slice (some ⟨g1,0,none⟩) o.length cap1,.int .i64 a,.int .i64 0,.int .i64 0,.int .i64 0] 117)) w1.heap.size (.slice (some ⟨g1,0,none⟩) o.length cap1) a 0 0 0 from heap_alloc_new w1 _)
     obtain⟨m0,m1,m2,m3,m4⟩:=ha3.facts
     have hltq:=(HQ.out.below hb).lt
     clear hb ha3 hrow
     go_wp2_with fail
     refine(rctok_any (HTK.out _ HBx.out) i).mono ?_
     rintro e w8 ⟨rfl,hb8⟩
     rw[HX.out]
     unfold tokV
     have HB8:=Lh (HBx.out.trans (hb8.mono HBx.out.size))
     have hq3:=HQ3.out.below hb8
     obtain⟨q0,q1,q2⟩:=hq3.facts
     obtain⟨z0,z1,z2⟩:=hq3.free
     have hlt3:=hq3.lt
     have HE:=Lh (hq3.stored 3 x.line x.col).facts
     clear hb8 hq3
     go_wp2
     obtain⟨e0,e1,e2⟩:=HE.out
     refine bodyPost_ret (v:=.tuple #[.slice none 0 0,.int .i64 0,.agg #[.int .i64 3,.int .i64 x.line,.int .i64 x.col]]) (by simp[results,Tryz.results75,go_sem,e0,e1,e2]) rfl ?_
     rw[HU.out]
     exact⟨rfl,(below_fault HB8.out (Nat.le_refl _) _ _ _)⟩
   · have HU:Hid (readP T prop i=.ok o a):=by unfold Hid readP;rw[hp];dsimp only;rw[if_neg h64]
     have hz64:¬(64:Int) < (o.length:Int):=by omega
     clear hp
     go_enter Tryz.func75,Tryz.ntmps75
     go_wp2_with fail
     refine HFO.out.mono ?_
     rw[HE1.out]
     rintro e w1 ⟨g1,cap1,rfl,hrow,hb⟩
     have hRow:=owns_mono (owns_alloc hrow (.cells #[.slice (some ⟨g1,0,none⟩) o.length cap1,.int .i64 a,.int .i64 0,.int .i64 0,.int .i64 0] 117)) HB0.out.size
     have HBx:=Lh ((HB0.out.trans (hb.mono HB0.out.size)).alloc (Nat.le_trans HB0.out.size hb.size) (.cells #[.slice (some ⟨g1,0,none⟩) o.length cap1,.int .i64 a,.int .i64 0,.int .i64 0,.int .i64 0] 117))
     have hq3:=((HQ.out.below hb).alloc (.cells #[.slice (some ⟨g1,0,none⟩) o.length cap1,.int .i64 a,.int .i64 0,.int .i64 0,.int .i64 0] 117))
     have ha3:=(show PrB (w1.alloc (.cells #[.slice (some ⟨g1,0,none⟩) o.length cap1,.int .i64 a,.int .i64 0,.int .i64 0,.int .i64 0] 117)) w1.heap.size (.slice (some ⟨g1,0,none⟩) o.length cap1) a 0 0 0 from heap_alloc_new w1 _)
     have hltq:=(HQ.out.below hb).lt
     obtain⟨m0,m1,m2,m3,m4⟩:=ha3.facts
     clear hb hrow
     go_upto_if 23 with fail
     obtain⟨WW,hWW⟩:∃ W,w1.alloc (.cells #[.slice (some ⟨g1,0,none⟩) o.length cap1,.int .i64 a,.int .i64 0,.int .i64 0,.int .i64 0] 117)=W:=⟨_,rfl⟩
     rw[hWW] at hq3 ha3 HBx hRow ⊢
     clear hWW m0 m1 m2 m3 m4
     obtain⟨n0,n1,_,_,_⟩:=ha3.drew.facts
     obtain⟨q0,q1,q2⟩:=hq3.facts
     obtain⟨z0,z1,z2⟩:=hq3.free
     have hlt3:=hq3.lt
     obtain⟨t0,t1,_,_,_⟩:=(((ha3.over (k:=w.heap.size) (j:=0) (by omega) (.int .i64 0)).over (k:=w.heap.size) (j:=1) (by omega) (.int .i64 0)).over (k:=w.heap.size) (j:=2) (by omega) (.int .i64 0)).drew.facts
     have HE:=Lh (hq3.stored 0 0 0).facts
     have HOW:=Lh (hq3.row hRow (by decide) 0 0 0)
     clear hq3 ha3 hRow
     go_wp2
     first
     | (go_region_held3 (fun w'=>w'.cell? ⟨w1.heap.size,0,none⟩ = some (.slice (some ⟨g1,0,none⟩) o.length cap1)∧w'.cell? ⟨w1.heap.size,1,none⟩ = some (.int .i64 a))
         (first| (with_reducible exact⟨n0,n1⟩)| (with_reducible exact⟨t0,t1⟩)| (trace_state;fail))
         (fail))
     | fail
     all_goals
      go_wp2
      obtain⟨e0,e1,e2⟩:=HE.out
      refine bodyPost_ret (v:=.tuple #[.slice (some ⟨g1,0,none⟩) o.length cap1,.int .i64 a,.agg #[.int .i64 0,.int .i64 0,.int .i64 0]]) (by simp[results,Tryz.results75,go_sem,q0,q1,q2]) rfl ?_
      rw[HU.out]
      exact⟨_,rfl,HOW.out.drew,(below_fault HBx.out (Nat.le_refl _) _ _ _).drew⟩
end Go.Proofs.YthlofmnmacpogaaGreatDoor
