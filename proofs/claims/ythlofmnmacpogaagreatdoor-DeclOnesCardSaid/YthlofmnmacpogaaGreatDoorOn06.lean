/- A part of a proof: 'warder/warderlaw07.DeclOnes' returns true for every input and leaves its arguments as they were; no condition. The row lists package-level variables of Go's library with what they hold at the start; the card ties them to the program's text. -/
import Derived.Test.YthlofmnmacpogaaGreatDoorOn05
namespace Go.Proofs.YthlofmnmacpogaaGreatDoor
open Go.RowKit
set_option maxHeartbeats 1000000 in
theorem sign_zero:SignOK 0:=by
 intro w B b lv T i prop ov O line col d h hB hlo hhi hO hd
 have HR:=Lib.hid h
 have hd24: (24:Int) < d:=by omega
 have HD:=Lib.hid hd
 clear h hd
 go_enter Tryz.func121,Tryz.ntmps121
 go_wp2_with fail
 refine(cfail_any HR.out hB 5 rfl).mono ?_
 rintro e w1 ⟨rfl,hc⟩
 have HF:=Lib.hid hc
 clear hc
 go_wp2
 go_ret
 exact CRes.bad (show(bothP T prop 0).1 i=.bad 5 (tkAt T i).line (tkAt T i).col from rfl) rfl HF.out
theorem temp_bd (s:ByteArray):0≤tempN s∧tempN s≤24:=by
 unfold tempN
 repeat' split
 all_goals omega
theorem CRes.cat {w w1 w':World} {B b:Nat} {lv:Value} {T:List Tk} {prop p2:Bool} {O O2:List It} {p:PR} {e:Ending} {i:Int} {ov:Value} {er line col:Int} (h:CRes w1 B b lv T prop O p e w') (k:CTook w w1 B b lv T i p2 ov O2 er line col):CRes w B b lv T prop O p e w':=by
 cases p with
 | ok o a=>obtain⟨he,ov,l,c,h⟩:=h;exact⟨he,ov,l,c,k.trans h⟩
 | bad er l c=>obtain⟨he,ov,O',i',h⟩:=h;exact⟨he,ov,O',i',k.trans h⟩
structure SgK (w W:World) (B b:Nat) (lv:Value) (T:List Tk) (i:Int) (prop:Bool) (ov:Value) (O:List It) (er line col:Int) (k:Nat) (x:Tk):Prop where
 tk:CTook w W B b lv T i prop ov O er line col
 tb:TkB W k x
theorem SgK.below {w W W':World} {B b:Nat} {lv:Value} {T:List Tk} {i:Int} {prop:Bool} {ov:Value} {O:List It} {er line col:Int} {k:Nat} {x:Tk} (h:SgK w W B b lv T i prop ov O er line col k x) (hb:Below W.heap.size W W') (hB:B≤w.heap.size):SgK w W' B b lv T i prop ov O er line col k x:=
 ⟨h.tk.then hb hB,(hb.block k h.tb.lt).trans h.tb⟩
theorem SgK.moved {w W:World} {B b:Nat} {lv:Value} {T:List Tk} {i:Int} {prop:Bool} {ov:Value} {O:List It} {er line col:Int} {k:Nat} {x:Tk} (h:SgK w W B b lv T i prop ov O er line col k x) (hk:b≠k) (j:Int):SgK w (W.setCell ⟨b,1,none⟩ (.int .i64 j)) B b lv T j prop ov O er line col k x:=
 ⟨h.tk.moved j,h.tb.setOther hk _⟩
set_option maxRecDepth 100000 in
set_option maxHeartbeats 8000000 in
theorem sign_succ (n:Nat) (hn:n≤24) (hf:FormOK n) (hs:SignOK n):SignOK (n+1):=by
 intro w B b lv T i prop ov O line col d h hB hlo hhi hO hd
 have HR:=Lib.hid h
 have hbl:=h.lt
 have hTl:=h.len
 have HFO:=Lib.hid hf
 have HSO:=Lib.hid hs
 have HGF:=Lib.hid (both_good T prop n).2
 have HGS:=Lib.hid (both_good T prop n).1
 have HTOP:Hid ((bothP T prop (n+1)).1 i=signP T prop (bothP T prop n).1 (bothP T prop n).2 i):=rfl
 obtain⟨form,hform⟩:∃ f,(bothP T prop n).2=f:=⟨_,rfl⟩
 obtain⟨sg,hsg⟩:∃ f,(bothP T prop n).1=f:=⟨_,rfl⟩
 have HFM:=Lib.hid hform
 have HSM:=Lib.hid hsg
 rw[HTOP.out]
 unfold Hid at HGF HGS
 rw[hform] at HGF ⊢
 rw[hsg] at HGS ⊢
 have HGF:=Lib.hid HGF;have HGS:=Lib.hid HGS
 obtain⟨x,hx⟩:∃ x,tkAt T i=x:=⟨_,rfl⟩
 have HX:=Lib.hid hx
 have HN:=Lib.hid (now_any h)
 have HUN:∀ op,Hid (∀ (W:World) (l c:Int) (ov:Value),Cr W B b lv T i prop ov O 0 l c→B≤W.heap.size→0≤i→i≤1000000→(O.length:Int)≤i→Calls Tryz.prog 138 #[.pointer (some ⟨b,0,none⟩),.int .i64 d,.int .i64 op] W (CRes W B b lv T prop O (untilP T form op i))):=fun op=>by
  intro W l c ov h1 h2 h3 h4 h5
  have:=until_any n hn hf h1 h2 h3 h4 h5 d op (by omega)
  rwa [hform] at this
 have hd0:0≤d:=by omega
 have hd1:d≤24:=by omega
 have HDN:=Lib.hid (show d+1=25 - (n:Int) by omega)
 have HNN:=Lib.hid hn
 have q40:=eq_lit [40] x.text
 have qnot:=eq_lit [110,111,116] x.text
 have qA:=eq_lit [65] x.text
 have qE:=eq_lit [69] x.text
 have HK0:Hid (∀ w1,Below w.heap.size w w1→SgK w (w1.alloc (.cells #[.int .i64 x.kind,.string x.text,.int .i64 x.num,.int .i64 x.line,.int .i64 x.col] 48)) B b lv T i prop ov O 0 line col w1.heap.size x):=fun w1 hb1=>
  ⟨((CTook.of_rd HR.out).then hb1 hB).alloc hB _,heap_alloc_new w1 _⟩
 clear h hf hs hform hsg hx hd hn HTOP
 have ht:=temp_bd x.text
 by_cases h40:isTk T i 4 sOpen=true
 · have HU:Hid (signP T prop sg form i= (form (i+1)).also fun o a=>needP T a 4 sClose fun b=>.ok o b):=by unfold Hid signP;rw[if_pos h40]
   have hin:=isTk_in h40 (by decide)
   have h40':=h40
   unfold isTk at h40'
   rw[HX.out] at h40'
   simp only[Bool.and_eq_true,decide_eq_true_eq] at h40'
   have hk4: (x.kind == 4)=true:=by rw[beq_iff_eq];exact h40'.1
   rw[decide_eq_true (by exact h40'.2)] at q40
   clear h40 h40' qnot qA qE ht
   go_enter Tryz.func121,Tryz.ntmps121
   go_wp2_with fail
   refine HN.out.mono ?_
   rintro e w1 ⟨rfl,hb1⟩
   rw[HX.out]
   unfold tokV
   have hc0:=(CTook.of_rd HR.out).then hb1 hB
   obtain⟨_,c1,_,_,_,_,_⟩:=hc0.rd.facts
   obtain⟨f1,_,_,_,_⟩:=hc0.rd.free
   have hbl1:=hc0.rd.lt
   have hs1:=hb1.size
   have HM:=Lib.hid ((hc0.moved (i+1)).alloc hB (.cells #[.int .i64 x.kind,.string x.text,.int .i64 x.num,.int .i64 x.line,.int .i64 x.col] 48))
   clear hb1 hc0
   go_wp2_with fail
   cases hp:form (i+1) with
   | bad er l c=>
     have HE:=Lib.hid hp
     clear hp
     refine(HFO.out _ B b lv T (i+1) _ ov O line col (d+1) HM.out.rd (HM.out.size hB) (by omega) (by omega) (by omega) HDN.out).mono ?_
     rw[HFM.out,HE.out]
     rintro e w4 ⟨rfl,ov4,O4,i4,htk⟩
     have HF:=Lib.hid (HM.out.trans htk)
     clear htk
     go_wp2
     go_ret
     exact CRes.bad (HU.out.trans (also_of_bad HE.out)) rfl HF.out
   | ok o1 a1=>
     have hg1:=HGF.out _ _ _ hp
     have HE:=Lib.hid hp
     unfold Hid at HU
     rw[also_of_ok hp] at HU
     have HU:=Lib.hid HU
     clear hp
     refine(HFO.out _ B b lv T (i+1) _ ov O line col (d+1) HM.out.rd (HM.out.size hB) (by omega) (by omega) (by omega) HDN.out).mono ?_
     rw[HFM.out,HE.out]
     rintro e w4 ⟨rfl,ov4,l4,c4,htk⟩
     have HC4:=Lib.hid (HM.out.trans htk)
     clear htk
     go_wp2_with fail
     obtain⟨qa,hqa⟩:∃ q,isTk T a1 4 sClose=q:=⟨_,rfl⟩
     have HQA:=Lib.hid hqa
     clear hqa
     refine(need_any HC4.out.rd (HC4.out.size hB) 4 _ (by omega) (by omega)).mono ?_
     rw[show isTk T a1 4 ⟨#[41]⟩ = qa from HQA.out]
     rintro e w5 ⟨rfl,hok,hbad⟩
     cases qa
     · have HF:=Lib.hid (HC4.out.trans (hbad rfl))
       clear hok hbad
       go_wp2
       go_ret
       exact CRes.bad (HU.out.trans (needP_bad HQA.out)) rfl HF.out
     · obtain⟨l5,c5,ht5⟩:=hok rfl
       have HF:=Lib.hid (HC4.out.trans ht5)
       clear hok hbad ht5
       go_wp2
       go_ret
       exact CRes.ok (HU.out.trans (needP_ok HQA.out)) rfl HF.out
 have h40': (x.kind == 4)=false∨((x.kind == 4)=true∧(x.text.toList == [40])=false):=by
  by_cases hk:x.kind=4
  · refine .inr ⟨by rw[beq_iff_eq];exact hk,?_⟩
    rw[q40]
    refine decide_eq_false fun e=>h40 ?_
    unfold isTk;rw[HX.out,decide_eq_true hk,decide_eq_true (by exact e)];rfl
  · exact .inl (beq_eq_false_iff_ne.2 hk)
 by_cases hk2:x.kind=2
 · have hk4: (x.kind == 4)=false:=by rw[hk2];rfl
   have hk2b: (x.kind == 2)=true:=by rw[beq_iff_eq];exact hk2
   have hk2n: (x.kind !=2)=false:=by rw[hk2];rfl
   have hin:=tkAt_in (T:=T) (i:=i) (by rw[HX.out];omega)
   have H1:=Lib.hid (show ¬isTk T i 4 sOpen=true from h40)
   have H2:=Lib.hid (show ¬(tkAt T i).kind≠2 by rw[HX.out];omega)
   clear h40 h40' hk2 q40
   obtain⟨t,htt⟩:∃ t,tempN x.text=t:=⟨_,rfl⟩
   have HT:=Lib.hid htt
   have HTA:Hid (x.text=wA→t=0):=fun e=>by rw[←htt,e];rfl
   have HTE:Hid (x.text=wE→t=0):=fun e=>by rw[←htt,e];rfl
   rw[htt] at ht
   clear htt
   by_cases hnot:x.text=wNot
   · have HU:Hid (signP T prop sg form i= (sg (i+1)).also fun o a=>.ok (o ++ [item 15 x]) a):=by
      unfold Hid signP;rw[if_neg H1.out,if_neg H2.out,HX.out,if_pos hnot]
     rw[decide_eq_true (by exact hnot)] at qnot
     clear hnot qA qE
     go_enter Tryz.func121,Tryz.ntmps121
     go_wp2_with fail
     refine HN.out.mono ?_
     rintro e w1 ⟨rfl,hb1⟩
     rw[HX.out]
     unfold tokV
     have HK1:=Lib.hid (HK0.out w1 hb1)
     have hs1:=hb1.size
     clear hb1
     go_wp2_with fail
     refine(temporal_any x.text _).mono ?_
     rintro e w2 ⟨rfl,hb2⟩
     rw[HT.out]
     have HK2:=Lib.hid (HK1.out.below hb2 hB)
     clear hb2
     obtain⟨_,c1,c2,_,_,_,_⟩:=HK2.out.tk.rd.facts
     obtain⟨f1,_,_,_,_⟩:=HK2.out.tk.rd.free
     have hblK:=HK2.out.tk.rd.lt
     obtain⟨t0,t1,t2,t3,t4⟩:=HK2.out.tb.facts
     have htlK:=HK2.out.tb.lt
     have hkk:=Lib.hid (show b≠w1.heap.size by omega)
     have HM:=Lib.hid (HK2.out.moved hkk.out (i+1))
     go_wp2_with fail
     cases hp:sg (i+1) with
     | bad er l c=>
       have HE:=Lib.hid hp
       clear hp
       refine(HSO.out _ B b lv T (i+1) _ ov O line col (d+1) HM.out.tk.rd (HM.out.tk.size hB) (by omega) (by omega) (by omega) HDN.out).mono ?_
       rw[HSM.out,HE.out]
       rintro e w4 ⟨rfl,ov4,O4,i4,htk⟩
       have HF:=Lib.hid (HM.out.tk.trans htk)
       clear htk
       go_wp2
       go_ret
       exact CRes.bad (HU.out.trans (also_of_bad HE.out)) rfl HF.out
     | ok o1 a1=>
       have hg1:=HGS.out _ _ _ hp
       have HE:=Lib.hid hp
       clear hp
       refine(HSO.out _ B b lv T (i+1) _ ov O line col (d+1) HM.out.tk.rd (HM.out.tk.size hB) (by omega) (by omega) (by omega) HDN.out).mono ?_
       rw[HSM.out,HE.out]
       rintro e w4 ⟨rfl,ov4,l4,c4,htk⟩
       have hx4:=HM.out.tb.kept htk.kept (Ne.symm hkk.out)
       obtain⟨z0,z1,z2,z3,z4⟩:=hx4.facts
       have hO4: (O ++o1).length≤1000000:=by rw[List.length_append];omega
       have HC4:=Lib.hid (HM.out.tk.trans htk)
       clear htk hx4
       go_wp2_with fail
       refine(put_any HC4.out.rd (HC4.out.size hB) hO4 _ _ _ _ _ _ _ _ _ _ _).mono ?_
       rintro e w5 ⟨rfl,ov5,hp⟩
       have HF:=Lib.hid (show CTook w w5 B b lv T a1 _ ov5 (O ++ (o1 ++ [item (15) x])) 0 l4 c4 by
        have:=HC4.out.trans hp
        rw[List.append_assoc] at this;exact this)
       clear hp
       go_wp2
       go_ret
       exact CRes.ok (HU.out.trans (also_of_ok HE.out)) rfl HF.out
   rw[decide_eq_false (by exact hnot)] at qnot
   have H3:=Lib.hid hnot
   clear hnot
   cases prop
   · have HPF:Hid (t > 0∨x.text=wA∨x.text=wE→signP T false sg form i=.bad 4 x.line x.col):=fun hh=>by
      unfold signP;rw[if_neg H1.out,if_neg H2.out,HX.out,if_neg H3.out,HT.out,if_pos ⟨rfl,hh⟩];unfold badP;rw[HX.out]
     by_cases h0:0 < t
     · have H0:=Lib.hid h0
       clear qA qE
       go_enter Tryz.func121,Tryz.ntmps121
       go_wp2_with fail
       refine HN.out.mono ?_
       rintro e w1 ⟨rfl,hb1⟩
       rw[HX.out]
       unfold tokV
       have HK1:=Lib.hid (HK0.out w1 hb1)
       have hs1:=hb1.size
       clear hb1
       go_wp2_with fail
       refine(temporal_any x.text _).mono ?_
       rintro e w2 ⟨rfl,hb2⟩
       rw[HT.out]
       have HK2:=Lib.hid (HK1.out.below hb2 hB)
       clear hb2
       obtain⟨_,c1,c2,_,_,_,_⟩:=HK2.out.tk.rd.facts
       obtain⟨f1,_,_,_,_⟩:=HK2.out.tk.rd.free
       have hblK:=HK2.out.tk.rd.lt
       obtain⟨t0,t1,t2,t3,t4⟩:=HK2.out.tb.facts
       have htlK:=HK2.out.tb.lt
       go_wp2_with fail
       refine(cfail_any HK2.out.tk.rd (HK2.out.tk.size hB) 4 rfl).mono ?_
       rintro e w3 ⟨rfl,hc⟩
       rw[HX.out] at hc
       have HF:=Lib.hid (HK2.out.tk.trans hc)
       clear hc
       go_wp2
       go_ret
       exact CRes.bad (HPF.out (.inl H0.out)) rfl HF.out
     have h00:t=0:=by omega
     subst h00
     clear h0 ht
     by_cases hA:x.text=wA
     · have HA:=Lib.hid hA
       rw[decide_eq_true (by exact hA)] at qA
       clear hA qE
       go_enter Tryz.func121,Tryz.ntmps121
       go_wp2_with fail
       refine HN.out.mono ?_
       rintro e w1 ⟨rfl,hb1⟩
       rw[HX.out]
       unfold tokV
       have HK1:=Lib.hid (HK0.out w1 hb1)
       have hs1:=hb1.size
       clear hb1
       go_wp2_with fail
       refine(temporal_any x.text _).mono ?_
       rintro e w2 ⟨rfl,hb2⟩
       rw[HT.out]
       have HK2:=Lib.hid (HK1.out.below hb2 hB)
       clear hb2
       obtain⟨_,c1,c2,_,_,_,_⟩:=HK2.out.tk.rd.facts
       obtain⟨f1,_,_,_,_⟩:=HK2.out.tk.rd.free
       have hblK:=HK2.out.tk.rd.lt
       obtain⟨t0,t1,t2,t3,t4⟩:=HK2.out.tb.facts
       have htlK:=HK2.out.tb.lt
       go_wp2_with fail
       refine(cfail_any HK2.out.tk.rd (HK2.out.tk.size hB) 4 rfl).mono ?_
       rintro e w3 ⟨rfl,hc⟩
       rw[HX.out] at hc
       have HF:=Lib.hid (HK2.out.tk.trans hc)
       clear hc
       go_wp2
       go_ret
       exact CRes.bad (HPF.out (.inr (.inl HA.out))) rfl HF.out
     rw[decide_eq_false (by exact hA)] at qA
     by_cases hE:x.text=wE
     · have HE':=Lib.hid hE
       rw[decide_eq_true (by exact hE)] at qE
       clear hA hE
       go_enter Tryz.func121,Tryz.ntmps121
       go_wp2_with fail
       refine HN.out.mono ?_
       rintro e w1 ⟨rfl,hb1⟩
       rw[HX.out]
       unfold tokV
       have HK1:=Lib.hid (HK0.out w1 hb1)
       have hs1:=hb1.size
       clear hb1
       go_wp2_with fail
       refine(temporal_any x.text _).mono ?_
       rintro e w2 ⟨rfl,hb2⟩
       rw[HT.out]
       have HK2:=Lib.hid (HK1.out.below hb2 hB)
       clear hb2
       obtain⟨_,c1,c2,_,_,_,_⟩:=HK2.out.tk.rd.facts
       obtain⟨f1,_,_,_,_⟩:=HK2.out.tk.rd.free
       have hblK:=HK2.out.tk.rd.lt
       obtain⟨t0,t1,t2,t3,t4⟩:=HK2.out.tb.facts
       have htlK:=HK2.out.tb.lt
       go_wp2_with fail
       refine(cfail_any HK2.out.tk.rd (HK2.out.tk.size hB) 4 rfl).mono ?_
       rintro e w3 ⟨rfl,hc⟩
       rw[HX.out] at hc
       have HF:=Lib.hid (HK2.out.tk.trans hc)
       clear hc
       go_wp2
       go_ret
       exact CRes.bad (HPF.out (.inr (.inr HE'.out))) rfl HF.out
     rw[decide_eq_false (by exact hE)] at qE
     have HU:Hid (signP T false sg form i=atomP T false i):=by
      unfold Hid signP;rw[if_neg H1.out,if_neg H2.out,HX.out,if_neg H3.out,HT.out,if_neg (by rintro⟨_,h|h|h⟩;omega;exact hA h;exact hE h),if_neg hA,if_neg hE,if_pos rfl]
     clear hA hE
     go_enter Tryz.func121,Tryz.ntmps121
     go_wp2_with fail
     refine HN.out.mono ?_
     rintro e w1 ⟨rfl,hb1⟩
     rw[HX.out]
     unfold tokV
     have HK1:=Lib.hid (HK0.out w1 hb1)
     have hs1:=hb1.size
     clear hb1
     go_wp2_with fail
     refine(temporal_any x.text _).mono ?_
     rintro e w2 ⟨rfl,hb2⟩
     rw[HT.out]
     have HK2:=Lib.hid (HK1.out.below hb2 hB)
     clear hb2
     obtain⟨_,c1,c2,_,_,_,_⟩:=HK2.out.tk.rd.facts
     obtain⟨f1,_,_,_,_⟩:=HK2.out.tk.rd.free
     have hblK:=HK2.out.tk.rd.lt
     obtain⟨t0,t1,t2,t3,t4⟩:=HK2.out.tb.facts
     have htlK:=HK2.out.tb.lt
     go_wp2_with fail
     have HAT:=Lib.hid (atom_any HK2.out.tk.rd (HK2.out.tk.size hB) hlo (by omega) (by omega))
     unfold Hid tokV at HAT
     rw[HX.out] at HAT
     refine HAT.mono ?_
     clear HAT
     rintro e w3 hres
     have HS:=Lib.hid (hres)
     obtain⟨q,rfl⟩:=hres.val
     clear hres
     go_wp2
     go_ret
     rw[HU.out]
     exact CRes.cat HS.out HK2.out.tk
   · have hp0:¬(true=false∧(t > 0∨x.text=wA∨x.text=wE)):=by rintro⟨h,_⟩;cases h
     have HP0:=Lib.hid hp0
     clear hp0
     by_cases hA:x.text=wA
     · have h0:=HTA.out hA
       subst h0
       have HU:Hid (signP T true sg form i=untilP T form 25 i):=by unfold Hid signP;rw[if_neg H1.out,if_neg H2.out,HX.out,if_neg H3.out,HT.out,if_neg HP0.out,if_pos hA]
       rw[decide_eq_true (by exact hA)] at qA
       clear hA qE ht
       go_enter Tryz.func121,Tryz.ntmps121
       go_wp2_with fail
       refine HN.out.mono ?_
       rintro e w1 ⟨rfl,hb1⟩
       rw[HX.out]
       unfold tokV
       have HK1:=Lib.hid (HK0.out w1 hb1)
       have hs1:=hb1.size
       clear hb1
       go_wp2_with fail
       refine(temporal_any x.text _).mono ?_
       rintro e w2 ⟨rfl,hb2⟩
       rw[HT.out]
       have HK2:=Lib.hid (HK1.out.below hb2 hB)
       clear hb2
       obtain⟨_,c1,c2,_,_,_,_⟩:=HK2.out.tk.rd.facts
       obtain⟨f1,_,_,_,_⟩:=HK2.out.tk.rd.free
       have hblK:=HK2.out.tk.rd.lt
       obtain⟨t0,t1,t2,t3,t4⟩:=HK2.out.tb.facts
       have htlK:=HK2.out.tb.lt
       go_wp2_with fail
       refine((HUN 25).out _ line col ov HK2.out.tk.rd (HK2.out.tk.size hB) (by omega) (by omega) (by omega)).mono ?_
       rintro e w3 hres
       have HS:=Lib.hid (hres)
       obtain⟨q,rfl⟩:=hres.val
       clear hres
       go_wp2
       go_ret
       rw[HU.out]
       exact CRes.cat HS.out HK2.out.tk
     rw[decide_eq_false (by exact hA)] at qA
     by_cases hE:x.text=wE
     · have h0:=HTE.out hE
       subst h0
       have HU:Hid (signP T true sg form i=untilP T form 26 i):=by unfold Hid signP;rw[if_neg H1.out,if_neg H2.out,HX.out,if_neg H3.out,HT.out,if_neg HP0.out,if_neg hA,if_pos hE]
       rw[decide_eq_true (by exact hE)] at qE
       clear hA hE ht
       go_enter Tryz.func121,Tryz.ntmps121
       go_wp2_with fail
       refine HN.out.mono ?_
       rintro e w1 ⟨rfl,hb1⟩
       rw[HX.out]
       unfold tokV
       have HK1:=Lib.hid (HK0.out w1 hb1)
       have hs1:=hb1.size
       clear hb1
       go_wp2_with fail
       refine(temporal_any x.text _).mono ?_
       rintro e w2 ⟨rfl,hb2⟩
       rw[HT.out]
       have HK2:=Lib.hid (HK1.out.below hb2 hB)
       clear hb2
       obtain⟨_,c1,c2,_,_,_,_⟩:=HK2.out.tk.rd.facts
       obtain⟨f1,_,_,_,_⟩:=HK2.out.tk.rd.free
       have hblK:=HK2.out.tk.rd.lt
       obtain⟨t0,t1,t2,t3,t4⟩:=HK2.out.tb.facts
       have htlK:=HK2.out.tb.lt
       go_wp2_with fail
       refine((HUN 26).out _ line col ov HK2.out.tk.rd (HK2.out.tk.size hB) (by omega) (by omega) (by omega)).mono ?_
       rintro e w3 hres
       have HS:=Lib.hid (hres)
       obtain⟨q,rfl⟩:=hres.val
       clear hres
       go_wp2
       go_ret
       rw[HU.out]
       exact CRes.cat HS.out HK2.out.tk
     rw[decide_eq_false (by exact hE)] at qE
     by_cases h0:t=0
     · subst h0
       have HU:Hid (signP T true sg form i=atomP T true i):=by
        unfold Hid signP;rw[if_neg H1.out,if_neg H2.out,HX.out,if_neg H3.out,HT.out,if_neg HP0.out,if_neg hA,if_neg hE,if_pos rfl]
       clear hA hE ht
       go_enter Tryz.func121,Tryz.ntmps121
       go_wp2_with fail
       refine HN.out.mono ?_
       rintro e w1 ⟨rfl,hb1⟩
       rw[HX.out]
       unfold tokV
       have HK1:=Lib.hid (HK0.out w1 hb1)
       have hs1:=hb1.size
       clear hb1
       go_wp2_with fail
       refine(temporal_any x.text _).mono ?_
       rintro e w2 ⟨rfl,hb2⟩
       rw[HT.out]
       have HK2:=Lib.hid (HK1.out.below hb2 hB)
       clear hb2
       obtain⟨_,c1,c2,_,_,_,_⟩:=HK2.out.tk.rd.facts
       obtain⟨f1,_,_,_,_⟩:=HK2.out.tk.rd.free
       have hblK:=HK2.out.tk.rd.lt
       obtain⟨t0,t1,t2,t3,t4⟩:=HK2.out.tb.facts
       have htlK:=HK2.out.tb.lt
       go_wp2_with fail
       have HAT:=Lib.hid (atom_any HK2.out.tk.rd (HK2.out.tk.size hB) hlo (by omega) (by omega))
       unfold Hid tokV at HAT
       rw[HX.out] at HAT
       refine HAT.mono ?_
       clear HAT
       rintro e w3 hres
       have HS:=Lib.hid (hres)
       obtain⟨q,rfl⟩:=hres.val
       clear hres
       go_wp2
       go_ret
       rw[HU.out]
       exact CRes.cat HS.out HK2.out.tk
     · have HU:Hid (signP T true sg form i= (sg (i+1)).also fun o a=>.ok (o ++ [item t x]) a):=by
        unfold Hid signP;rw[if_neg H1.out,if_neg H2.out,HX.out,if_neg H3.out,HT.out,if_neg HP0.out,if_neg hA,if_neg hE,if_neg h0]
       have ht1:0 < t:=by omega
       have htb: (t == 0)=false:=beq_eq_false_iff_ne.2 h0
       clear hA hE h0
       go_enter Tryz.func121,Tryz.ntmps121
       go_wp2_with fail
       refine HN.out.mono ?_
       rintro e w1 ⟨rfl,hb1⟩
       rw[HX.out]
       unfold tokV
       have HK1:=Lib.hid (HK0.out w1 hb1)
       have hs1:=hb1.size
       clear hb1
       go_wp2_with fail
       refine(temporal_any x.text _).mono ?_
       rintro e w2 ⟨rfl,hb2⟩
       rw[HT.out]
       have HK2:=Lib.hid (HK1.out.below hb2 hB)
       clear hb2
       obtain⟨_,c1,c2,_,_,_,_⟩:=HK2.out.tk.rd.facts
       obtain⟨f1,_,_,_,_⟩:=HK2.out.tk.rd.free
       have hblK:=HK2.out.tk.rd.lt
       obtain⟨t0,t1,t2,t3,t4⟩:=HK2.out.tb.facts
       have htlK:=HK2.out.tb.lt
       have hkk:=Lib.hid (show b≠w1.heap.size by omega)
       have HM:=Lib.hid (HK2.out.moved hkk.out (i+1))
       go_wp2_with fail
       cases hp:sg (i+1) with
       | bad er l c=>
         have HE:=Lib.hid hp
         clear hp
         refine(HSO.out _ B b lv T (i+1) _ ov O line col (d+1) HM.out.tk.rd (HM.out.tk.size hB) (by omega) (by omega) (by omega) HDN.out).mono ?_
         rw[HSM.out,HE.out]
         rintro e w4 ⟨rfl,ov4,O4,i4,htk⟩
         have HF:=Lib.hid (HM.out.tk.trans htk)
         clear htk
         go_wp2
         go_ret
         exact CRes.bad (HU.out.trans (also_of_bad HE.out)) rfl HF.out
       | ok o1 a1=>
         have hg1:=HGS.out _ _ _ hp
         have HE:=Lib.hid hp
         clear hp
         refine(HSO.out _ B b lv T (i+1) _ ov O line col (d+1) HM.out.tk.rd (HM.out.tk.size hB) (by omega) (by omega) (by omega) HDN.out).mono ?_
         rw[HSM.out,HE.out]
         rintro e w4 ⟨rfl,ov4,l4,c4,htk⟩
         have hx4:=HM.out.tb.kept htk.kept (Ne.symm hkk.out)
         obtain⟨z0,z1,z2,z3,z4⟩:=hx4.facts
         have hO4: (O ++o1).length≤1000000:=by rw[List.length_append];omega
         have HC4:=Lib.hid (HM.out.tk.trans htk)
         clear htk hx4
         go_wp2_with fail
         refine(put_any HC4.out.rd (HC4.out.size hB) hO4 _ _ _ _ _ _ _ _ _ _ _).mono ?_
         rintro e w5 ⟨rfl,ov5,hp⟩
         have HF:=Lib.hid (show CTook w w5 B b lv T a1 _ ov5 (O ++ (o1 ++ [item (t) x])) 0 l4 c4 by
          have:=HC4.out.trans hp
          rw[List.append_assoc] at this;exact this)
         clear hp
         go_wp2
         go_ret
         exact CRes.ok (HU.out.trans (also_of_ok HE.out)) rfl HF.out
 · have hk2b: (x.kind == 2)=false:=beq_eq_false_iff_ne.2 hk2
   have hk2n: (x.kind !=2)=true:=by simpa using hk2
   have HU:Hid (signP T prop sg form i=compP T i):=by unfold Hid signP;rw[if_neg h40,if_pos (by rw[HX.out];exact hk2)]
   clear h40 hk2 qnot qA qE ht q40
   rcases h40' with hk4| ⟨hk4,q40⟩
   all_goals
    go_enter Tryz.func121,Tryz.ntmps121
    go_wp2_with fail
    refine HN.out.mono ?_
    rintro e w1 ⟨rfl,hb1⟩
    rw[HX.out]
    unfold tokV
    have HK1:=Lib.hid (HK0.out w1 hb1)
    have hs1:=hb1.size
    clear hb1
    go_wp2_with fail
    refine(compare_any HK1.out.tk.rd (HK1.out.tk.size hB) hlo (by omega) (by have:=hO;omega)).mono ?_
    rintro e w3 hres
    have HS:=Lib.hid (hres)
    obtain⟨q,rfl⟩:=hres.val
    clear hres
    go_wp2
    go_ret
    rw[HU.out]
    exact CRes.cat HS.out HK1.out.tk
end Go.Proofs.YthlofmnmacpogaaGreatDoor
namespace Go.Proofs.YthlofmnmacpogaaGreatDoor
open Go.RowKit
def OnB (w:World) (k:Nat) (v:Value) (t:TypeId):Prop:=w.heap[k]?=some (.cells #[v] t (0,0))
theorem OnB.c {w:World} {k:Nat} {v:Value} {t:TypeId} (h:OnB w k v t):w.cell? ⟨k,0,none⟩ = some v:=by
 unfold OnB at h;simp[World.cell?,h]
theorem OnB.lt {w:World} {k:Nat} {v:Value} {t:TypeId} (h:OnB w k v t):k < w.heap.size:=(Array.getElem?_eq_some_iff.1 h).1
theorem OnB.kept {w w':World} {b k:Nat} {v:Value} {t:TypeId} (h:OnB w k v t) (ht:Lib.OthersKept 87 (some b) w w') (hkb:k≠b) (hne:t≠87):OnB w' k v t:=
 ht k _ h (fun e=>hkb (Option.some.inj e)) (fun c fz e=>by simp at e;exact hne e.2.1)
theorem OnB.alloc {w:World} {k:Nat} {v:Value} {t:TypeId} (h:OnB w k v t) (o:Obj):OnB (w.alloc o) k v t:=(Below.heap_alloc _ _ _ h.lt).trans h
set_option maxHeartbeats 1000000 in
theorem fInner_any (n:Nat) (hs:SignOK n) (p1 p2:Nat) (d:Int) (hd:d=25 - (n:Int)) {w:World} {B b:Nat} {lv:Value} {T:List Tk} {prop:Bool} (h1:OnB w p1 (.pointer (some ⟨b,0,none⟩)) 135) (h2:OnB w p2 (.int .i64 d) 3) (hn1:p1≠b) (hn2:p2≠b) (hB:B≤w.heap.size) :
 OneOK 120 #[.pointer (some ⟨p1,0,none⟩),.pointer (some ⟨p2,0,none⟩)] w B b lv T prop (bothP T prop n).1:=by
 intro w' ov O l c i hk hb h hlo hhi hO
 have c1:=(h1.kept hk hn1 (by decide)).c
 have c2:=(h2.kept hk hn2 (by decide)).c
 have HS:=Lib.hid (hs w' B b lv T i prop ov O l c d h (Nat.le_trans hB hb.size) hlo hhi hO hd)
 clear h h1 h2 hd hs hk hb
 go_enter Tryz.func120,Tryz.ntmps120
 go_wp2_with fail
 refine HS.out.mono ?_
 rintro e w1 hres
 have HR:=Lib.hid hres
 obtain⟨q,rfl⟩:=hres.val
 clear hres
 go_wp2
 go_ret
 exact HR.out
set_option maxHeartbeats 1000000 in
theorem fOuter_any (n:Nat) (hs:SignOK n) (p1 p2:Nat) (d:Int) (hd:d=25 - (n:Int)) {w:World} {B b:Nat} {lv:Value} {T:List Tk} {prop:Bool} (h1:OnB w p1 (.pointer (some ⟨b,0,none⟩)) 135) (h2:OnB w p2 (.int .i64 d) 3) (hn1:p1≠b) (hn2:p2≠b) (hB:B≤w.heap.size) :
 OneOK 119 #[.pointer (some ⟨p1,0,none⟩),.pointer (some ⟨p2,0,none⟩)] w B b lv T prop (rowsP T (bothP T prop n).1 wAnd 16):=by
 intro w' ov O l c i hk hb h hlo hhi hO
 have k1:=h1.kept hk hn1 (by decide)
 have k2:=h2.kept hk hn2 (by decide)
 have c1:=k1.c
 have c2:=k2.c
 have HI:=Lib.hid (fInner_any n hs p1 p2 d hd (lv:=lv) (T:=T) (prop:=prop) k1 k2 hn1 hn2 (Nat.le_trans hB hb.size))
 have HS:=Lib.hid (rowAnd_any p1 p2 (bothP T prop n).1 (both_good T prop n).1 h (Nat.le_trans hB hb.size) hlo hhi hO d wAnd 16 HI.out)
 clear h h1 h2 hd hs hk hb k1 k2 HI
 go_enter Tryz.func119,Tryz.ntmps119
 go_wp2_with fail
 refine HS.out.mono ?_
 rintro e w1 hres
 have HR:=Lib.hid hres
 obtain⟨q,rfl⟩:=hres.val
 clear hres
 go_wp2
 go_ret
 exact HR.out
set_option maxRecDepth 100000 in
set_option maxHeartbeats 4000000 in
theorem form_any (n:Nat) (hs:SignOK n) (hf:∀ m,n=m+1→FormOK m) (hn:n≤25):FormOK n:=by
 intro w B b lv T i prop ov O line col d h hB hlo hhi hO hd
 have hbl:=h.lt
 have hTl:=h.len
 have HTOP:Hid ((bothP T prop n).2 i=formP T (bothP T prop n).1 (bothP T prop (n - 1)).2 i):=by
  cases n with
  | zero=>rfl
  | succ m=>rfl
 rw[HTOP.out]
 have hg:=rowsP_good (rowsP_good (both_good T prop n).1 wAnd 16) wOr 17
 have HC:=Lib.hid (((CTook.of_rd h).alloc hB (.cells #[.pointer (some ⟨b,0,none⟩)] 135)).alloc hB (.cells #[.int .i64 d] 3))
 have k1:OnB ((w.alloc (.cells #[.pointer (some ⟨b,0,none⟩)] 135)).alloc (.cells #[.int .i64 d] 3)) w.heap.size (.pointer (some ⟨b,0,none⟩)) 135:=OnB.alloc (heap_alloc_new w _) _
 have k2:OnB ((w.alloc (.cells #[.pointer (some ⟨b,0,none⟩)] 135)).alloc (.cells #[.int .i64 d] 3)) (w.heap.size+1) (.int .i64 d) 3:=heap_at_size _ _ _ (by simp)
 have HO:=fOuter_any n hs w.heap.size (w.heap.size+1) d hd (lv:=lv) (T:=T) (prop:=prop) k1 k2 (by omega) (by omega) (HC.out.size hB)
 have HROW:=Lib.hid (rowOr_any w.heap.size (w.heap.size+1) (rowsP T (bothP T prop n).1 wAnd 16) (rowsP_good (both_good T prop n).1 wAnd 16) HC.out.rd (HC.out.size hB) hlo hhi hO d wOr 17 HO)
 have K1:=Lib.hid k1;have K2:=Lib.hid k2
 have hd0:0≤d:=by omega
 have hd1:d≤25:=by omega
 clear h HO k1 k2 hs HTOP
 cases hp:rowsP T (rowsP T (bothP T prop n).1 wAnd 16) wOr 17 i with
 | bad er l c=>
   have HU:Hid (formP T (bothP T prop n).1 (bothP T prop (n - 1)).2 i=.bad er l c):=by unfold Hid formP;rw[also_of_bad hp]
   have HE:=Lib.hid hp
   clear hp hd hf hg
   go_enter Tryz.func104,Tryz.ntmps104
   go_wp2_with fail
   refine HROW.out.mono ?_
   rw[HE.out]
   rintro e w1 ⟨rfl,ov1,O1,i1,ht⟩
   have HF:=Lib.hid (HC.out.trans ht)
   clear ht
   go_wp2
   go_ret
   exact CRes.bad HU.out rfl HF.out
 | ok o a=>
   have hga:=hg _ _ _ hp
   obtain⟨m,rfl⟩:∃ m,n=m+1:=by
    cases n with
    | zero=>
      have h0:badP T i 5=PR.ok o a:=hp
      cases h0
    | succ m=>exact⟨m,rfl⟩
   have HFO:=Lib.hid (hf m rfl)
   have HDN:=Lib.hid (show d+1=25 - (m:Int) by omega)
   have HG:=Lib.hid (both_good T prop m).2
   obtain⟨form,hform⟩:∃ f,(bothP T prop m).2=f:=⟨_,rfl⟩
   have HFM:=Lib.hid hform
   have HU:Hid (formP T (bothP T prop (m+1)).1 (bothP T prop (m+1 - 1)).2 i=if isTk T a 2 wImplies then(form (a+1)).also fun o2 b=>.ok (o ++o2 ++ [item 18 (tkAt T a)]) b else .ok o a):=by
    unfold Hid formP;rw[also_of_ok hp,Nat.add_sub_cancel,hform]
   unfold Hid at HG
   rw[hform] at HG
   have HG:=Lib.hid HG
   have HE:=Lib.hid hp
   obtain⟨x,hx⟩:∃ x,tkAt T a=x:=⟨_,rfl⟩
   have HX:=Lib.hid hx
   obtain⟨q,hq⟩:∃ q,isTk T a 2 wImplies=q:=⟨_,rfl⟩
   have HQ:=Lib.hid hq
   unfold Hid at HU
   rw[hx,hq] at HU
   have HU:=Lib.hid HU
   have hfd:∀ w:World,(Instr.field 48 (.agg #[.int .i64 x.kind,.string x.text,.int .i64 x.num,.int .i64 x.line,.int .i64 x.col]) 3).run Tryz.prog w=.ok (.agg #[.int .i64 x.line,.int .i64 x.col]) w:=fun _=>by kernel_rfl
   have hOa: ((O ++o).length:Int)≤a:=by rw[List.length_append];omega
   have HOA:=Lib.hid hOa
   clear hp hd hf hg hform hx hq hn hOa
   go_enter Tryz.func104,Tryz.ntmps104
   go_wp2_with fail
   refine HROW.out.mono ?_
   rw[HE.out]
   rintro e w1 ⟨rfl,ov1,l1,c1,ht⟩
   have HT:=Lib.hid (HC.out.trans ht)
   have hk1:=K1.out.kept ht.kept (by omega) (by decide)
   have hk2:=K2.out.kept ht.kept (by omega) (by decide)
   have s1:=hk1.c
   have sl:=hk1.lt
   have J1:=Lib.hid hk1;have J2:=Lib.hid hk2
   clear ht hk1 hk2
   go_wp2_with fail
   refine(now_any HT.out.rd).mono ?_
   rintro e wa ⟨rfl,hba⟩
   rw[HX.out]
   unfold tokV
   have HC1:=Lib.hid ((HT.out.then hba hB).alloc hB (.cells #[.int .i64 x.line,.int .i64 x.col] 26))
   have HP1:=Lib.hid (show PsB (wa.alloc (.cells #[.int .i64 x.line,.int .i64 x.col] 26)) wa.heap.size x.line x.col from heap_alloc_new wa _)
   have ha1:OnB wa _ _ _:=(hba.block _ J1.out.lt).trans J1.out
   have ha2:OnB wa _ _ _:=(hba.block _ J2.out.lt).trans J2.out
   have A1:=Lib.hid (ha1.alloc (.cells #[.int .i64 x.line,.int .i64 x.col] 26))
   have A2:=Lib.hid (ha2.alloc (.cells #[.int .i64 x.line,.int .i64 x.col] 26))
   have s2:=ha1.c
   have sl2:=ha1.lt
   have hbs:=HC1.out.rd.lt
   have hbw:=hba.size
   have hbz:=HT.out.rd.lt
   clear hba ha1 ha2
   go_wp2_with fail
   refine(ctake_any HC1.out.rd (HC1.out.size hB) 2 _ (by omega) (by omega)).mono ?_
   rw[show isTk T a 2 ⟨#[105,109,112,108,105,101,115]⟩ = q from HQ.out]
   rintro e wb ⟨rfl,hcb⟩
   cases q
   · have HF:=Lib.hid (HC1.out.trans hcb)
     clear hcb
     go_wp2
     go_ret
     exact CRes.ok HU.out rfl HF.out
   · have hin:=isTk_in HQ.out (by decide)
     have HF1:=Lib.hid (show CTook w wb B b lv T (a+1) prop ov1 (O ++o) 0 l1 c1 from HC1.out.trans hcb)
     have HPB:=Lib.hid (HP1.out.kept hcb.kept (by omega))
     have B1:=Lib.hid (A1.out.kept hcb.kept (by omega) (by decide))
     have b2:=A2.out.kept hcb.kept (by omega) (by decide)
     have s3:=B1.out.c
     have s4:=b2.c
     clear hcb b2
     have HU:Hid (formP T (bothP T prop (m+1)).1 (bothP T prop (m+1 - 1)).2 i= (form (a+1)).also fun o2 b=>.ok (o ++o2 ++ [item 18 x]) b):=by
      have:=HU.out
      rw[if_pos rfl] at this
      exact this
     cases hp2:form (a+1) with
     | bad er l c=>
       have HE2:=Lib.hid hp2
       clear hp2
       go_wp2_with fail
       refine(HFO.out _ B b lv T (a+1) prop ov1 (O ++o) l1 c1 (d+1) HF1.out.rd (HF1.out.size hB) (by omega) (by omega) (by have:=HOA.out;omega) HDN.out).mono ?_
       rw[HFM.out,HE2.out]
       rintro e w5 ⟨rfl,ov5,O5,i5,ht⟩
       have HF:=Lib.hid (HF1.out.trans ht)
       clear ht
       go_wp2
       go_ret
       exact CRes.bad (HU.out.trans (also_of_bad HE2.out)) rfl HF.out
     | ok o2 a2=>
       have hg2:=HG.out _ _ _ hp2
       have HE2:=Lib.hid hp2
       clear hp2
       go_wp2_with fail
       refine(HFO.out _ B b lv T (a+1) prop ov1 (O ++o) l1 c1 (d+1) HF1.out.rd (HF1.out.size hB) (by omega) (by omega) (by have:=HOA.out;omega) HDN.out).mono ?_
       rw[HFM.out,HE2.out]
       rintro e w5 ⟨rfl,ov5,l5,c5,ht⟩
       have HC5:=Lib.hid (HF1.out.trans ht)
       have hp5:=HPB.out.kept ht.kept (by omega)
       have hb5:=B1.out.kept ht.kept (by omega) (by decide)
       obtain⟨q0,q1⟩:=hp5.facts
       have s5:=hb5.c
       have hO5: ((O ++o) ++o2).length≤1000000:=by have:=HOA.out;rw[List.length_append];omega
       clear ht hp5 hb5
       go_wp2_with fail
       refine(put_any HC5.out.rd (HC5.out.size hB) hO5 _ _ _ _ _ _ _ _ _ _ _).mono ?_
       rintro e w7 ⟨rfl,ov7,hp⟩
       have HF:=Lib.hid (show CTook w w7 B b lv T a2 prop ov7 (O ++ (o ++o2 ++ [item 18 x])) 0 l5 c5 by
        have:=HC5.out.trans hp
        rw[List.append_assoc,List.append_assoc] at this
        rw[List.append_assoc];exact this)
       clear hp
       go_wp2
       go_ret
       exact CRes.ok (HU.out.trans (also_of_ok HE2.out)) rfl HF.out
theorem both_any:∀ n,n≤25→SignOK n∧FormOK n
 | 0,_=>⟨sign_zero,form_any 0 sign_zero (fun m h=>by omega) (by omega)⟩
 | n+1,h=>by
   have ih:=both_any n (by omega)
   have hs:=sign_succ n (by omega) ih.2 ih.1
   exact⟨hs,form_any (n+1) hs (fun m e=>by cases e;exact ih.2) h⟩
end Go.Proofs.YthlofmnmacpogaaGreatDoor
