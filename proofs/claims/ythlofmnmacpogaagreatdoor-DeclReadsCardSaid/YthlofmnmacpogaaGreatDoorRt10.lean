/- A part of a proof of DeclReadsProof. -/
import Derived.Test.YthlofmnmacpogaaGreatDoorRt09
import Derived.Deep.RegionWith
set_option maxRecDepth 100000
set_option maxHeartbeats 40000000
namespace Go.Proofs.YthlofmnmacpogaaGreatDoor
open Go.RowKit
theorem lowerB_same (b:UInt8):Lib.lowerB b=b ↔ greatB (b.toNat:Int)=false:=by
 have key:∀ n:Fin 256,Lib.lowerB (UInt8.ofNat n.val)=UInt8.ofNat n.val ↔ greatB ((UInt8.ofNat n.val).toNat:Int)=false:=by decide +kernel
 have:=key ⟨b.toNat,b.toNat_lt⟩
 simpa using this
theorem lower_same (l:List UInt8): (Lib.toLowerA l=l) ↔ l.any (fun b=>greatB (b.toNat:Int))=false:=by
 unfold Lib.toLowerA
 induction l with
 | nil=>simp
 | cons x r ih=>rw[List.map_cons,List.cons.injEq,ih,lowerB_same,List.any_cons,Bool.or_eq_false_iff]
theorem word_any {w:World} {B b:Nat} {s:ByteArray} {L:List Rn} {lv:Value} {i:Nat} {ov:Value} {T:List Tk} (h:Rd w B b s L lv i ov T) (hm:MaxCell w) (hB0:0 < B) (hB:B≤w.heap.size) (hL:L.length≤16385) (hT:T.length≤100000) (hs:s.size≤4294967200)
 (x y:Rn) (hx:L[i]?=some x) (hy:L[i+ (wordN L i - 1)]?=some y) (hn:1≤wordN L i) (hxy:x.fr≤y.to) (hys:y.to≤s.size) (hasc:∀ c ∈ (txt s L i (wordN L i)).data.toList,c.toNat < 128) :
 Calls Tryz.prog 57 #[.pointer (some ⟨b,0,none⟩)] w (Stepped w B b s L lv (wordT s L i T)):=by
 have hi:=(List.getElem?_eq_some_iff.1 hx).1
 obtain⟨t,ht⟩:∃ t,txt s L i (wordN L i)=t:=⟨_,rfl⟩
 obtain⟨n,hnn⟩:∃ n,wordN L i=n:=⟨_,rfl⟩
 have hR:rowE innerB L (i+0) - i=n:=hnn
 have hte:s.extract x.fr y.to=t:=by rw[←ht];unfold txt;rw[(at_some hx).2.1,(at_some hy).2.2.1]
 rw[ht] at hasc
 rw[hnn] at hn hy
 have hw:wordT s L i T= ⟨wordErr t,x.line,x.col,i+n,T ++ [⟨wordKind t,t,0,x.line,x.col⟩]⟩:=by
  unfold wordT;rw[ht,hnn,(at_some hx).2.2.2.1,(at_some hx).2.2.2.2]
 have HW:=Lh hw
 have hts:t.size≤s.size:=by rw[←hte,ByteArray.size_extract];omega
 have HR:=Lh h
 have HI:=Lh (And.intro hR hte)
 have HM:=Lh hm
 have HX:=Lh (And.intro hx hy)
 have hbl:=h.lt
 clear h hR hte hm hx hy hw
 go_enter Tryz.func57,Tryz.ntmps57
 go_wp2_with fail
 refine(row_innerB (HR.out.keep ((Below.refl _ _).alloc (Nat.le_refl _) _)) 0 hL (by omega) (by omega)).mono ?_
 rintro e w1 ⟨rfl,hb1⟩
 have HB1:=Lh (((Below.refl _ w).alloc (Nat.le_refl _) _).trans (hb1.mono (by simp)))
 have HF1:=Lh ((FltAt.new w 0 0 0).below hb1 (by simp))
 clear hb1
 rw[HI.out.1]
 go_wp2_with fail
 refine(fault_any (HR.out.keep HB1.out) 0 x HX.out.1 hL).mono ?_
 rintro e w2 ⟨rfl,hb2⟩
 have HB2:=Lh (HB1.out.trans (hb2.mono HB1.out.size))
 have HF2:=Lh (HF1.out.below hb2 HF1.out.lt)
 clear hb2 HB1 HF1
 go_wp2_with fail
 refine(take_any (HR.out.keep (HB2.out.alloc HB2.out.size _)) 1 n x y HX.out.1 HX.out.2 hn hL hT hxy hys (by have:=HB2.out.size;simp;omega)).mono ?_
 rintro e w3 ⟨g3,cap3,rfl,hk⟩
 rw[HI.out.2] at hk
 have hfb:=(FltAt.new w2 0 x.line x.col).took hk (by have:=HB2.out.size;omega)
 have hfr:=(HF2.out.alloc _).took hk (by omega)
 have HK:=Lh (hk.after (HB2.out.alloc HB2.out.size _) hB)
 obtain⟨_,c1,_,f0,_,hgl,hgn⟩:=hk.last
 have hgb:=hgn _ _ _ _ hfr
 clear hk HF2 hgn
 obtain⟨a0,a1,a2,a3,a4,a5⟩:=hfr.facts
 obtain⟨b0,b1,b2,b3,b4,b5⟩:=hfb.facts
 have HFR:=Lh hfr
 have HFB:=Lh hfb
 clear hfr hfb
 go_wp2_with fail
 refine(known_any t _ (HM.out.below HK.out.low hB0) (by omega)).mono ?_
 rintro e w' ⟨rfl,rfl⟩
 cases hkn:knownB t
 · have hq: (⟨(Lib.toLowerA t.data.toList).toArray⟩:ByteArray)=t ↔ hasGreatB t=false:=by
    unfold hasGreatB
    rw[←lower_same]
    exact⟨fun e=>by have:=congrArg (fun q:ByteArray=>q.data.toList) e;simpa using this,fun e=>by rw[e]⟩
   have HN:=Lh hkn;clear hkn
   obtain⟨tl,htl⟩:∃ tl:ByteArray,(⟨(Lib.toLowerA t.data.toList).toArray⟩:ByteArray)=tl:=⟨_,rfl⟩
   rw[htl] at hq
   have HTL:=Lh htl;clear htl
   have HA:=Lh hasc;clear hasc
   go_wp2
   go_region_held3 (fun w'=>w'.cell? ⟨g3,T.length * 5+1,none⟩ = some (.string t)) (first|assumption|go_keep)
    (first| (go_at_call 85;refine(Tryz.strings_ToLower_ascii t _ (by omega) (by intro j c hc;exact HA.out c (List.mem_of_getElem? hc))).mono ?_;rintro e w5 ⟨rfl,hb5⟩;rw[HTL.out];have q5:=(hb5.cell (p:=⟨g3,T.length * 5+1,none⟩) hgl).trans c1))
   replace hb5:=((Below.refl w3.heap.size w3).drew).trans hb5
   have HK5:=Lh (HK.out.then hb5 hB)
   have hfr5:=HFR.out.below hb5 HFR.out.lt
   have hfb5:=HFB.out.below hb5 HFB.out.lt
   clear hb5 a0 a1 a2 a3 a4 a5 b0 b1 b2 b3 b4 b5
   obtain⟨a0,a1,a2,a3,a4,a5⟩:=hfr5.facts
   obtain⟨b0,b1,b2,b3,b4,b5⟩:=hfb5.facts
   have HKD:Hid (wordKind t=1):=by unfold Hid wordKind;rw[HN.out];rfl
   cases hg:hasGreatB t
   · have hte: (tl.toList == t.toList)=true:=by rw[hq.2 hg];simp
     rw[hte]
     clear hte
     by_cases h16:16 < t.size
     · have HE:Hid (wordErr t=3):=by unfold Hid wordErr;rw[HN.out,hg];simp[h16]
       have h16': (16:Int) < t.size:=by omega
       clear hg hq h16
       have HK6:=Lh (HK5.out.stored (Nat.le_refl _) hbl hB hfr5 3 x.line x.col)
       obtain⟨e0,e1,e2,_,_,_⟩:=(hfr5.stored 3 x.line x.col).facts
       clear hfr5 hfb5
       go_wp2
       exact bodyPost_ret (v:=.agg #[.int .i64 (3),.int .i64 (x.line),.int .i64 (x.col)]) (by simp[results,Tryz.results57,go_sem,e0,e1,e2]) rfl ⟨by rw[HW.out];show _=Ending.returned (faultV (wordErr t) _ _);rw[HE.out];rfl,⟨_,by rw[HW.out];show Took _ _ _ _ _ _ _ _ _ (T ++ [⟨wordKind t,_,_,_,_⟩]);rw[HKD.out];exact HK6.out⟩⟩
     · have HE:Hid (wordErr t=0):=by unfold Hid wordErr;rw[HN.out,hg];simp[h16]
       have h16': (t.size:Int)≤16:=by omega
       clear hg hq h16
       have HK6:=Lh (HK5.out.stored (Nat.le_refl _) hbl hB hfr5 0 0 0)
       obtain⟨e0,e1,e2,_,_,_⟩:=(hfr5.stored 0 0 0).facts
       clear hfr5 hfb5
       go_wp2
       exact bodyPost_ret (v:=.agg #[.int .i64 (0),.int .i64 (0),.int .i64 (0)]) (by simp[results,Tryz.results57,go_sem,e0,e1,e2]) rfl ⟨by rw[HW.out];show _=Ending.returned (faultV (wordErr t) _ _);rw[HE.out];rfl,⟨_,by rw[HW.out];show Took _ _ _ _ _ _ _ _ _ (T ++ [⟨wordKind t,_,_,_,_⟩]);rw[HKD.out];exact HK6.out⟩⟩
   · have hte: (tl.toList == t.toList)=false:=by
      rw[beq_bytes]
      exact decide_eq_false (fun e=>by rw[hq.1 e] at hg;cases hg)
     rw[hte]
     clear hte
     have HE:Hid (wordErr t=1):=by unfold Hid wordErr;rw[HN.out,hg];rfl
     clear hg hq
     have HK6:=Lh (HK5.out.stored (Nat.le_refl _) hbl hB hfr5 1 x.line x.col)
     obtain⟨e0,e1,e2,_,_,_⟩:=(hfr5.stored 1 x.line x.col).facts
     clear hfr5 hfb5
     go_wp2
     exact bodyPost_ret (v:=.agg #[.int .i64 (1),.int .i64 (x.line),.int .i64 (x.col)]) (by simp[results,Tryz.results57,go_sem,e0,e1,e2]) rfl ⟨by rw[HW.out];show _=Ending.returned (faultV (wordErr t) _ _);rw[HE.out];rfl,⟨_,by rw[HW.out];show Took _ _ _ _ _ _ _ _ _ (T ++ [⟨wordKind t,_,_,_,_⟩]);rw[HKD.out];exact HK6.out⟩⟩
 · have HN:=Lh hkn;clear hkn
   have HK2:=Lh (HK.out.setTok (j:=0) (u:=.int .i64 2) (y:=⟨2,t,0,x.line,x.col⟩) (by omega) rfl)
   have hf2:=HFR.out.setOther (j:=T.length * 5) hgb (.int .i64 2)
   obtain⟨d0,d1,d2,d3,d4,d5⟩:=hf2.facts
   have HK3:=Lh (HK2.out.stored (Nat.le_refl _) hbl hB hf2 0 0 0)
   have hf3:=(hf2.stored 0 0 0).facts
   obtain⟨e0,e1,e2,_,_,_⟩:=hf3
   clear hf2
   go_wp2
   exact bodyPost_ret (v:=.agg #[.int .i64 0,.int .i64 0,.int .i64 0]) (by simp[results,Tryz.results57,go_sem,e0,e1,e2]) rfl ⟨by rw[HW.out];show _=Ending.returned (faultV (wordErr t) _ _);rw[show wordErr t=0 by unfold wordErr;rw[HN.out];rfl];rfl,⟨_,by rw[HW.out];show Took _ _ _ _ _ _ _ _ _ (T ++ [⟨wordKind t,_,_,_,_⟩]);rw[show wordKind t=2 by unfold wordKind;rw[HN.out];rfl];exact HK3.out⟩⟩
theorem value_any (t:ByteArray) (w:World) (hs:t.size≤4294967296) (h0:0 < t.size) (hd:if(t[0]'h0).toNat=45 then DigT (t.extract 1 t.size) else DigT t) :
 Calls Tryz.prog 86 #[.string t] w fun e w'=>e=.returned (.tuple #[.int .i64 (valN t (decide ((t[0]'h0).toNat=45))).1,.bool (valN t (decide ((t[0]'h0).toNat=45))).2])∧w=w':=by
 by_cases h: (t[0]'h0).toNat=45
 · rw[decide_eq_true h];rw[if_pos h] at hd;exact value_neg t w hs h0 h hd
 · rw[decide_eq_false h];rw[if_neg h] at hd;exact value_pos t w hs h0 hd
theorem number_any {w:World} {B b:Nat} {s:ByteArray} {L:List Rn} {lv:Value} {i:Nat} {ov:Value} {T:List Tk} (h:Rd w B b s L lv i ov T) (hB:B≤w.heap.size) (hL:L.length≤16385) (hT:T.length≤100000) (hs:s.size≤4294967200)
 (x y:Rn) (hx:L[i]?=some x) (hy:L[i+ (numN L i - 1)]?=some y) (hn:1≤numN L i) (hxy:x.fr≤y.to) (hys:y.to≤s.size) (h0:0 < (txt s L i (numN L i)).size)
 (hd:if((txt s L i (numN L i))[0]'h0).toNat=45 then DigT ((txt s L i (numN L i)).extract 1 (txt s L i (numN L i)).size) else DigT (txt s L i (numN L i))) (hq: (((txt s L i (numN L i))[0]'h0).toNat=45)= (rAt L i=45)) :
 Calls Tryz.prog 59 #[.pointer (some ⟨b,0,none⟩)] w (Stepped w B b s L lv (numbT s L i T)):=by
 have hi:=(List.getElem?_eq_some_iff.1 hx).1
 have hR:rowE digitB L (i+1) - i=numN L i:=rfl
 have hte:s.extract x.fr y.to=txt s L i (numN L i):=by unfold txt;rw[(at_some hx).2.1,(at_some hy).2.2.1]
 have hts: (txt s L i (numN L i)).size≤s.size:=by rw[←hte,ByteArray.size_extract];omega
 have hval:=fun W=>value_any (txt s L i (numN L i)) W (by omega) h0 hd
 have hdq:decide (((txt s L i (numN L i))[0]'h0).toNat=45)=decide (rAt L i=45):=by simp only[hq]
 rw[hdq] at hval
 have hw:numbT s L i T= ⟨if(valN (txt s L i (numN L i)) (decide (rAt L i=45))).2 then 0 else 2,x.line,x.col,i+numN L i,T ++ [⟨3,txt s L i (numN L i),(valN (txt s L i (numN L i)) (decide (rAt L i=45))).1,x.line,x.col⟩]⟩:=by
  unfold numbT numVal;rw[(at_some hx).2.2.2.1,(at_some hx).2.2.2.2]
 have hov: (valN (txt s L i (numN L i)) (decide (rAt L i=45))).2=false→(valN (txt s L i (numN L i)) (decide (rAt L i=45))).1=0:=by
  unfold valN;split <;> split <;> simp
 obtain⟨vv,hvv⟩:∃ vv,valN (txt s L i (numN L i)) (decide (rAt L i=45))=vv:=⟨_,rfl⟩
 obtain⟨v,ok⟩:=vv
 rw[hvv] at hval hw hov
 clear hd hq hdq hvv
 obtain⟨t,ht⟩:∃ t,txt s L i (numN L i)=t:=⟨_,rfl⟩
 obtain⟨n,hnn⟩:∃ n,numN L i=n:=⟨_,rfl⟩
 rw[hnn] at hn hy hR
 rw[ht] at hw hval hte hts
 rw[hnn] at hw
 clear ht h0
 have HW:=Lh hw
 have HV:=Lh hval
 have HR:=Lh h
 have HI:=Lh (And.intro hR hte)
 have HX:=Lh (And.intro hx hy)
 have HO:=Lh hov
 have hbl:=h.lt
 clear h hR hte hx hy hw hval hnn hov
 go_enter Tryz.func59,Tryz.ntmps59
 go_wp2_with fail
 refine(fault_any (HR.out.keep ((Below.refl _ _).alloc (Nat.le_refl _) _)) 0 x HX.out.1 hL).mono ?_
 rintro e w1 ⟨rfl,hb1⟩
 have HB1:=Lh (((Below.refl _ w).alloc (Nat.le_refl _) _).trans (hb1.mono (by simp)))
 have HF1:=Lh ((FltAt.new w 0 0 0).below hb1 (by simp))
 clear hb1
 go_wp2_with fail
 refine(row_digitB (HR.out.keep (HB1.out.alloc HB1.out.size _)) 1 hL (by omega) (by omega)).mono ?_
 rintro e w2 ⟨rfl,hb2⟩
 have HB2:=Lh ((HB1.out.alloc HB1.out.size _).trans (hb2.mono (by have:=HB1.out.size;simp;omega)))
 have HF2:=Lh ((HF1.out.alloc _).below hb2 (by have:=HF1.out.lt;simp;omega))
 have HG2:=Lh ((FltAt.new w1 0 x.line x.col).below hb2 (by simp))
 have hw1:=HB1.out.size
 clear hb2 HB1 HF1
 rw[HI.out.1]
 go_wp2_with fail
 refine(take_any (HR.out.keep HB2.out) 3 n x y HX.out.1 HX.out.2 hn hL hT hxy hys (by have:=HB2.out.size;omega)).mono ?_
 rintro e w3 ⟨g3,cap3,rfl,hk⟩
 rw[HI.out.2] at hk
 have hfb:=HG2.out.took hk (by omega)
 have hfr:=HF2.out.took hk (by omega)
 have HK:=Lh (hk.after HB2.out hB)
 obtain⟨_,c1,c2,_,f2,hgl,hgn⟩:=hk.last
 have hgb:=hgn _ _ _ _ hfr
 clear hk HF2 HG2 hgn
 obtain⟨a0,a1,a2,a3,a4,a5⟩:=hfr.facts
 obtain⟨b0,b1,b2,b3,b4,b5⟩:=hfb.facts
 have HFR:=Lh hfr
 clear hfr hfb
 go_wp2_with fail
 refine(HV.out _).mono ?_
 rintro e w' ⟨rfl,rfl⟩
 cases ok
 · have HV0:=Lh (HO.out rfl)
   have HK6:=Lh (HK.out.stored (Nat.le_refl _) hbl hB HFR.out 2 x.line x.col)
   obtain⟨e0,e1,e2,_,_,_⟩:=(HFR.out.stored 2 x.line x.col).facts
   go_wp2
   exact bodyPost_ret (v:=.agg #[.int .i64 2,.int .i64 x.line,.int .i64 x.col]) (by simp[results,Tryz.results59,go_sem,e0,e1,e2]) rfl ⟨by rw[HW.out];rfl,⟨_,by rw[HW.out];show Took _ _ _ _ _ _ _ _ _ (T ++ [⟨3,t,v,_,_⟩]);rw[HV0.out];exact HK6.out⟩⟩
 · have HK2:=Lh (HK.out.setTok (j:=2) (u:=.int .i64 v) (y:=⟨3,t,v,x.line,x.col⟩) (by omega) rfl)
   have hf2:=HFR.out.setOther (j:=T.length * 5+2) hgb (.int .i64 v)
   obtain⟨d0,d1,d2,d3,d4,d5⟩:=hf2.facts
   have HK3:=Lh (HK2.out.stored (Nat.le_refl _) hbl hB hf2 0 0 0)
   obtain⟨e0,e1,e2,_,_,_⟩:=(hf2.stored 0 0 0).facts
   clear hf2
   go_wp2
   exact bodyPost_ret (v:=.agg #[.int .i64 0,.int .i64 0,.int .i64 0]) (by simp[results,Tryz.results59,go_sem,e0,e1,e2]) rfl ⟨by rw[HW.out];rfl,⟨_,by rw[HW.out];exact HK3.out⟩⟩
structure RnOk (s:ByteArray) (L:List Rn):Prop where
 len:L.length≤16385
 le:∀ (i j:Nat) (x y:Rn),i≤j→L[i]?=some x→L[j]?=some y→x.fr≤y.to∧y.to≤s.size
 txtSize:∀ (i n:Nat),(∀ k,k < n→0≤rAt L (i+k)∧rAt L (i+k) < 128)→(∀ k,k < n→i+k < L.length)→1≤n→(txt s L i n).size=n
 txtByte:∀ (i n:Nat),(∀ k,k < n→0≤rAt L (i+k)∧rAt L (i+k) < 128)→(∀ k,k < n→i+k < L.length)→1≤n→∀ (k:Nat) (h:k < (txt s L i n).size),(((txt s L i n)[k]'h).toNat:Int)=rAt L (i+k)
theorem runesAt_get (g:Nat→Int) (s:ByteArray) (k p:Nat) (line col:Int) (i:Nat) (x:Rn) (h: (runesAt g s k p line col)[i]?=some x) :
 x.r=g x.fr∧x.to=x.fr+decN s x.fr∧x.fr < s.size∧p≤x.fr∧(i=0→x.fr=p)∧∀ y,(runesAt g s k p line col)[i+1]?=some y→y.fr=x.to:=by
 induction k generalizing p line col i x with
 | zero=>simp[runesAt] at h
 | succ k ih=>
   simp only[runesAt] at h ⊢
   by_cases hp:p < s.size
   · rw[if_pos hp] at h ⊢
     cases i with
     | zero=>
       simp only[List.getElem?_cons_zero,Option.some.injEq] at h
       subst h
       refine⟨rfl,rfl,hp,Nat.le_refl _,fun _=>rfl,fun y hy=>?_⟩
       simp only[List.getElem?_cons_succ] at hy
       exact(ih _ _ _ 0 y hy).2.2.2.2.1 rfl
     | succ i=>
       simp only[List.getElem?_cons_succ] at h ⊢
       obtain⟨a,b,c,d,_,f⟩:=ih _ _ _ i x h
       exact⟨a,b,c,by have:=decN_pos s p;omega,by omega,f⟩
   · rw[if_neg hp] at h;simp at h
theorem dec_small (s:ByteArray) (p:Nat) (hp:p < s.size) (h0:0≤decR s p) (h1:decR s p < 128):decN s p=1∧((s[p]'hp).toNat:Int)=decR s p:=by
 have hg:s.get! p=s[p]'hp:=by
  simp[ByteArray.get!,ByteArray.getElem_eq_getElem_data,getElem!_pos,hp]
 unfold decR at h0 h1 ⊢
 unfold decN
 by_cases hq: (Utf8.decode s p).1=65533∧(Utf8.decode s p).2=1
 · rw[if_pos hq] at h0;omega
 · rw[if_neg hq] at h0 h1 ⊢
   have hb: (s.get! (p+0)).toNat < 128→Utf8.decode s p= ((s.get! (p+0)).toNat,1):=by
    intro h;unfold Utf8.decode;simp only;rw[if_pos h]
   by_cases hs: (s.get! (p+0)).toNat < 128
   · rw[hb hs];refine⟨rfl,?_⟩;rw[Nat.add_zero,hg]
   · exfalso
     rcases dec_cases s p with h|h|h|h
     · have hlt: (Utf8.decode s p).1 < 128:=by omega
       revert hlt
       unfold Utf8.decode
       simp only
       rw[if_neg hs]
       repeat' split
       all_goals simp_all [Utf8.runeError]
       all_goals omega
     · omega
     · omega
     · omega
theorem ext_get {t s:ByteArray} {a b k j:Nat} (e:t=s.extract a b) (h:k < t.size) (hj:j=a+k) (h2:j < s.size):t[k]'h=s[j]'h2:=by
 subst e;subst hj;rw[ByteArray.getElem_extract]
theorem rnOk (s:ByteArray) (hl: (allR s).length≤16384):RnOk s (allR s):=by
 have get:∀ (i:Nat) (x:Rn),(allR s)[i]?=some x→x.r=decR s x.fr∧x.to=x.fr+decN s x.fr∧x.fr < s.size∧∀ y,(allR s)[i+1]?=some y→y.fr=x.to:=by
  intro i x h
  obtain⟨a,b,c,_,_,d⟩:=runesAt_get _ _ _ _ _ _ i x h
  exact⟨a,b,c,d⟩
 have up:∀ (d i:Nat) (x y:Rn),(allR s)[i]?=some x→(allR s)[i+d]?=some y→x.fr+d≤y.fr:=by
  intro d
  induction d with
  | zero=>intro i x y hx hy;rw[Nat.add_zero,hx] at hy;cases hy;omega
  | succ d ih=>
    intro i x y hx hy
    have hlt:=(List.getElem?_eq_some_iff.1 hy).1
    obtain⟨z,hz⟩:∃ z,(allR s)[i+d]?=some z:=⟨_,List.getElem?_eq_getElem (by omega)⟩
    have h1:=ih i x z hx hz
    obtain⟨_,h2,_,h3⟩:=get _ z hz
    have h4:=h3 y hy
    have h5:=decN_pos s z.fr
    omega
 have le:∀ (i j:Nat) (x y:Rn),i≤j→(allR s)[i]?=some x→(allR s)[j]?=some y→x.fr≤y.to∧y.to≤s.size:=by
  intro i j x y hij hx hy
  obtain⟨d,rfl⟩:∃ d,j=i+d:=⟨j - i,by omega⟩
  have h1:=up d i x y hx hy
  obtain⟨_,h2,h3,_⟩:=get _ y hy
  have h4:=decN_le s y.fr h3
  omega
 have run:∀ (n i:Nat),(∀ k,k < n→0≤rAt (allR s) (i+k)∧rAt (allR s) (i+k) < 128)→(∀ k,k < n→i+k < (allR s).length)→∀ k,k < n→∃ x,(allR s)[i+k]?=some x∧x.fr=frAt (allR s) i+k∧x.to=x.fr+1∧∃ h:x.fr < s.size,((s[x.fr]'h).toNat:Int)=rAt (allR s) (i+k):=by
  intro n i h hlen k
  induction k with
  | zero=>
    intro hk
    obtain⟨x,hx⟩:∃ x,(allR s)[i+0]?=some x:=⟨_,List.getElem?_eq_getElem (hlen 0 hk)⟩
    obtain⟨a,b,c,_⟩:=get _ x hx
    have hr:=h 0 hk
    rw[rAt_some hx,a] at hr
    obtain⟨e1,e2⟩:=dec_small s x.fr c hr.1 hr.2
    refine⟨x,hx,by rw[Nat.add_zero] at hx ⊢;exact(at_some hx).2.1.symm,by omega,c,?_⟩
    rw[rAt_some hx,a];exact e2
  | succ k ih=>
    intro hk
    obtain⟨z,hz,hzf,hzt,_⟩:=ih (by omega)
    obtain⟨x,hx⟩:∃ x,(allR s)[i+ (k+1)]?=some x:=⟨_,List.getElem?_eq_getElem (hlen _ hk)⟩
    have hxf:=(get _ z hz).2.2.2 x hx
    obtain⟨a,b,c,_⟩:=get _ x hx
    have hr:=h (k+1) hk
    rw[rAt_some hx,a] at hr
    obtain⟨e1,e2⟩:=dec_small s x.fr c hr.1 hr.2
    refine⟨x,hx,by omega,by omega,c,?_⟩
    rw[rAt_some hx,a];exact e2
 have size:∀ (i n:Nat),(∀ k,k < n→0≤rAt (allR s) (i+k)∧rAt (allR s) (i+k) < 128)→(∀ k,k < n→i+k < (allR s).length)→1≤n→(txt s (allR s) i n).size=n:=by
  intro i n h hlen hn
  obtain⟨x,hx,hxf,hxt,hxs,_⟩:=run n i h hlen (n - 1) (by omega)
  unfold txt
  rw[ByteArray.size_extract,(at_some hx).2.2.1]
  omega
 refine⟨by omega,le,size,?_⟩
 intro i n h hlen hn k hk
 have hsz:=size i n h hlen hn
 obtain⟨x,hx,hxf,hxt,hxs,hb⟩:=run n i h hlen k (by omega)
 rw[←hb]
 rw[ext_get (t:=txt s (allR s) i n) rfl hk (by omega) hxs]
theorem row_facts {q:Int→Bool} {L:List Rn} {i:Nat} (hq:q (-1)=false) (hi:i < L.length) (h0:q (rAt L i)=true):1≤rowE q L i - i∧(∀ k,k < rowE q L i - i→i+k < L.length)∧∀ k,k < rowE q L i - i→q (rAt L (i+k))=true:=by
 have h1:=rowE_yes q hq L i h0
 have h2:=rowE_ge q L (i+1)
 have h3:=rowE_ge q L i
 exact⟨by omega,fun k hk=>by have:=h3.2 (by omega);omega,fun k hk=>rowE_all q L i (i+k) (by omega) (by omega)⟩
theorem inner_ascii {c:Int} (h:innerB c=true):0≤c∧c < 128:=by
 unfold innerB letterB smallB greatB digitB at h
 simp at h;omega
theorem digit_ascii {c:Int} (h:digitB c=true):48≤c∧c≤57:=by
 unfold digitB at h;simpa using h
theorem word_pre {s:ByteArray} {L:List Rn} {i:Nat} (hO:RnOk s L) (hi:i < L.length) (hl:letterB (rAt L i)=true) :
 (∃ y,L[i+ (wordN L i - 1)]?=some y)∧1≤wordN L i∧(∀ c ∈ (txt s L i (wordN L i)).data.toList,c.toNat < 128):=by
 have hin:innerB (rAt L i)=true:=by unfold innerB;rw[hl];rfl
 obtain⟨h1,h2,h3⟩:=row_facts (q:=innerB) (by decide) hi hin
 have h1':1≤wordN L i:=h1
 refine⟨⟨_,List.getElem?_eq_getElem (h2 (wordN L i - 1) (by unfold wordN;omega))⟩,h1,?_⟩
 intro c hc
 obtain⟨k,hk⟩:=List.getElem?_of_mem hc
 have hkl:=(List.getElem?_eq_some_iff.1 hk).1
 have hks:k < (txt s L i (wordN L i)).size:=by simpa using hkl
 have hb:=hO.txtByte i (wordN L i) (fun k hk=>inner_ascii (h3 k hk)) h2 h1 k hks
 have hsz:=hO.txtSize i (wordN L i) (fun k hk=>inner_ascii (h3 k hk)) h2 h1
 have hr:=inner_ascii (h3 k (by unfold wordN at hsz hks;omega))
 have hce: (txt s L i (wordN L i))[k]'hks=c:=by
  rw[List.getElem?_eq_getElem hkl] at hk
  exact Option.some.inj hk
 rw[hce] at hb
 omega
theorem num_pre {s:ByteArray} {L:List Rn} {i:Nat} (hO:RnOk s L) (hi:i < L.length) (hl:isNum L i=true) :
 (∃ y,L[i+ (numN L i - 1)]?=some y)∧1≤numN L i∧∃ h0:0 < (txt s L i (numN L i)).size,
   (if((txt s L i (numN L i))[0]'h0).toNat=45 then DigT ((txt s L i (numN L i)).extract 1 (txt s L i (numN L i)).size) else DigT (txt s L i (numN L i)))∧(((txt s L i (numN L i))[0]'h0).toNat=45)= (rAt L i=45):=by
 have h1:1≤numN L i:=by unfold numN;have:=rowE_ge digitB L (i+1);omega
 have hle:∀ k,k < numN L i→i+k < L.length:=by
  intro k hk;unfold numN at hk;have:=(rowE_ge digitB L (i+1)).2 (by omega);omega
 have hdig:∀ k,1≤k→k < numN L i→digitB (rAt L (i+k))=true:=by
  intro k hk1 hk;unfold numN at hk
  exact rowE_all digitB L (i+1) (i+k) (by omega) (by omega)
 have h0r:digitB (rAt L i)=true∨rAt L i=45:=by
  unfold isNum at hl;simp at hl
  rcases hl with h| ⟨h,_⟩
  · exact .inl h
  · exact .inr h
 have hasc:∀ k,k < numN L i→0≤rAt L (i+k)∧rAt L (i+k) < 128:=by
  intro k hk
  cases k with
  | zero=>
    rw[Nat.add_zero]
    rcases h0r with h|h
    · have:=digit_ascii h;omega
    · omega
  | succ k=>have:=digit_ascii (hdig (k+1) (by omega) hk);omega
 have hsz:=hO.txtSize i (numN L i) hasc hle h1
 have hby:=hO.txtByte i (numN L i) hasc hle h1
 have h0:0 < (txt s L i (numN L i)).size:=by omega
 have hb0:=hby 0 h0
 rw[Nat.add_zero] at hb0
 refine⟨⟨_,List.getElem?_eq_getElem (hle (numN L i - 1) (by omega))⟩,h1,h0,?_,?_⟩
 · split
   · intro k hk
     rw[ByteArray.getElem_extract]
     have hks:1+k < (txt s L i (numN L i)).size:=by rw[ByteArray.size_extract] at hk;omega
     have hb:=hby (1+k) hks
     have:=digit_ascii (hdig (1+k) (by omega) (by omega))
     omega
   · rename_i hn
     intro k hk
     have hb:=hby k hk
     cases k with
     | zero=>
       rw[Nat.add_zero] at hb
       rcases h0r with h|h
       · have:=digit_ascii h;omega
       · omega
     | succ k=>
       have:=digit_ascii (hdig (k+1) (by omega) (by omega))
       omega
 · apply propext;omega
end Go.Proofs.YthlofmnmacpogaaGreatDoor
