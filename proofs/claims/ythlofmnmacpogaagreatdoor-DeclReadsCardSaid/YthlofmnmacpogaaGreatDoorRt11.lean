/- A part of a proof of DeclReadsProof. -/
import Derived.Test.YthlofmnmacpogaaGreatDoorRt07
import Derived.Lib.IndexLaws
import Derived.Lib.Strings
import Derived.Lib.IndexMore
import Derived.Test.YthlofmnmacpogaaGreatDoorRt10
import Derived.Laws.Cover4
set_option maxRecDepth 100000
set_option maxHeartbeats 40000000
namespace Go.Proofs.YthlofmnmacpogaaGreatDoor
open Go.RowKit
theorem encode_ascii (c:Int) (h0:0≤c) (h1:c < 128): (Utf8.encode c).data.toList= [UInt8.ofNat c.toNat]:=by
 unfold Utf8.encode Utf8.valid
 have h2: (decide (0≤c) && decide (c < 55296) || decide (57344≤c) && decide (c≤1114111))=true:=by simp;omega
 simp only[h2,if_true]
 rw[if_pos (by omega)]
theorem encode_high (c:Int) (h:¬(0≤c∧c < 128)):∃ b ∈ (Utf8.encode c).data.toList,128≤b.toNat:=by
 unfold Utf8.encode
 simp only
 obtain⟨n,hn⟩:∃ n,(if Utf8.valid c=true then c.toNat else Utf8.runeError)=n:=⟨_,rfl⟩
 have hn1:128≤n∧n≤1114111:=by
  rw[←hn]
  unfold Utf8.valid Utf8.runeError
  split
  · rename_i hv;simp at hv;omega
  · omega
 rw[hn,if_neg (by omega)]
 split
 · exact⟨UInt8.ofNat (192+n / 64),by simp,by rw[UInt8.toNat_ofNat'];omega⟩
 · split
   · exact⟨UInt8.ofNat (224+n / 4096),by simp,by rw[UInt8.toNat_ofNat'];omega⟩
   · exact⟨UInt8.ofNat (240+n / 262144),by simp,by rw[UInt8.toNat_ofNat'];omega⟩
theorem prefix_sub {α:Type} [BEq α] [LawfulBEq α] {sub l:List α} (h:sub.isPrefixOf l=true):∀ b ∈ sub,b ∈ l:=by
 intro b hb
 have:=List.isPrefixOf_iff_prefix.1 h
 exact this.subset hb
theorem contains_mem {l sub:List UInt8} (h:Lib.contains l sub=true):∀ b ∈ sub,b ∈ l:=by
 unfold Lib.contains at h
 replace h:=of_decide_eq_true h
 induction l with
 | nil=>
   unfold Lib.index at h
   cases sub with
   | nil=>intro b hb;simp at hb
   | cons a r=>simp at h
 | cons x r ih=>
   unfold Lib.index at h
   intro b hb
   by_cases hp:sub.isPrefixOf (x :: r)=true
   · exact prefix_sub hp b hb
   · rw[if_neg hp] at h
     by_cases h1: (Lib.index r sub == -1)=true
     · rw[if_pos h1] at h;omega
     · rw[if_neg h1] at h
       have h3:Lib.index r sub≠ -1:=by simpa using h1
       exact List.mem_cons_of_mem _ (ih (by omega) b hb)
def twosT:List UInt8:=[32,60,61,32,62,61,32,33,61,32]
theorem twos_ascii (C D:UInt8):Lib.contains twosT [32,C,D,32]= ((C == 60 || C == 62 || C == 33) && D == 61):=by
 unfold Lib.contains twosT
 by_cases h0:D=61
 · subst h0
   by_cases h1:C=60
   · subst h1;decide
   · by_cases h2:C=62
     · subst h2;decide
     · by_cases h3:C=33
       · subst h3;decide
       · simp[Lib.index,List.isPrefixOf,h1,h2,h3]
 · simp[Lib.index,List.isPrefixOf,h0]
theorem twos_is (c d:Int):Lib.contains twosT ((⟨#[32]⟩:ByteArray) ++ (Utf8.encode c ++Utf8.encode d) ++ (⟨#[32]⟩:ByteArray)).data.toList=decide (signN c d=2):=by
 have e: ((⟨#[32]⟩:ByteArray) ++ (Utf8.encode c ++Utf8.encode d) ++ (⟨#[32]⟩:ByteArray)).data.toList=32 :: ((Utf8.encode c).data.toList ++ (Utf8.encode d).data.toList ++ [32]):=by simp[ByteArray.data_append]
 have hs: (signN c d=2) ↔ ((c=60∨c=62∨c=33)∧d=61):=by
  unfold signN
  constructor
  · intro h
    by_cases hq: (c=60∨c=62∨c=33)∧d=61
    · exact hq
    · rw[if_neg hq] at h;split at h <;> omega
  · intro h;rw[if_pos h]
 rw[e,Bool.eq_iff_iff,decide_eq_true_iff,hs]
 by_cases hc:0≤c∧c < 128
 · by_cases hd:0≤d∧d < 128
   · rw[encode_ascii c hc.1 hc.2,encode_ascii d hd.1 hd.2]
     show Lib.contains twosT [32,_,_,32]=true ↔ _
     rw[twos_ascii]
     have key:∀ (x:Int) (k:Nat),0≤x→x < 128→k < 128→((UInt8.ofNat x.toNat == UInt8.ofNat k)=true ↔ x=k):=by
      intro x k a b c
      rw[beq_iff_eq,←UInt8.toNat_inj,UInt8.toNat_ofNat',UInt8.toNat_ofNat']
      omega
     rw[Bool.and_eq_true,Bool.or_eq_true,Bool.or_eq_true]
     rw[show(60:UInt8)=UInt8.ofNat 60 from rfl,show(62:UInt8)=UInt8.ofNat 62 from rfl,show(33:UInt8)=UInt8.ofNat 33 from rfl,show(61:UInt8)=UInt8.ofNat 61 from rfl]
     rw[key c 60 hc.1 hc.2 (by omega),key c 62 hc.1 hc.2 (by omega),key c 33 hc.1 hc.2 (by omega),key d 61 hd.1 hd.2 (by omega)]
     omega
   · obtain⟨b,hb,hb2⟩:=encode_high d hd
     constructor
     · intro h
       have:=contains_mem h b (by simp[hb])
       have hall:∀ x ∈ twosT,x.toNat < 128:=by decide
       have:=hall b this
       omega
     · intro h;omega
 · obtain⟨b,hb,hb2⟩:=encode_high c hc
   constructor
   · intro h
     have:=contains_mem h b (by simp[hb])
     have hall:∀ x ∈ twosT,x.toNat < 128:=by decide
     have:=hall b this
     omega
   · intro h;omega
def onesT:List UInt8:=[60,62,61,40,41,91,93,44,59]
theorem ones_is (c:Int) (h0:33≤c) (h1:c≤126): (0≤Lib.indexByte onesT c.toNat.toUInt8) ↔ (c=60∨c=62∨c=61∨c=40∨c=41∨c=91∨c=93∨c=44∨c=59):=by
 obtain⟨n,rfl⟩:=Int.eq_ofNat_of_zero_le (show 0≤c by omega)
 have key:∀ k:Fin 127,(0≤Lib.indexByte onesT (k.val:Int).toNat.toUInt8) ↔ ((k.val:Int)=60∨(k.val:Int)=62∨(k.val:Int)=61∨(k.val:Int)=40∨(k.val:Int)=41∨(k.val:Int)=91∨(k.val:Int)=93∨(k.val:Int)=44∨(k.val:Int)=59):=by decide +kernel
 exact key ⟨n,by omega⟩
theorem sign_any {w:World} {B b:Nat} {s:ByteArray} {L:List Rn} {lv:Value} {i:Nat} {ov:Value} {T:List Tk} (h:Rd w B b s L lv i ov T) (hm:MaxCell w) (hB:B≤w.heap.size) (hL:L.length≤16385) (hT:T.length≤100000)
 (x:Rn) (hx:L[i]?=some x) (hG:∀ j y,i≤j→L[j]?=some y→x.fr≤y.to∧y.to≤s.size) :
 Calls Tryz.prog 55 #[.pointer (some ⟨b,0,none⟩)] w (Stepped w B b s L lv (signT s L i T)):=by
 have hi:=(List.getElem?_eq_some_iff.1 hx).1
 obtain⟨c,hc⟩:∃ c,rAt L i=c:=⟨_,rfl⟩
 obtain⟨d,hd⟩:∃ d,rAt L (i+1)=d:=⟨_,rfl⟩
 have hS:signT s L i T=if signN c d=0 then⟨1,x.line,x.col,i,T⟩ else⟨0,0,0,i+signN c d,T ++ [⟨4,txt s L i (signN c d),0,x.line,x.col⟩]⟩:=by
  unfold signT;rw[hc,hd,(at_some hx).2.2.2.1,(at_some hx).2.2.2.2]
 have HS:=Lh hS
 have htxt:∀ n y,L[i+ (n - 1)]?=some y→txt s L i n=s.extract x.fr y.to:=by
  intro n y hy;unfold txt;rw[(at_some hx).2.1,(at_some hy).2.2.1]
 have HT:=Lh htxt
 have HGG:=Lh hG
 have hd2:d=61→∃ y,L[i+ (2 - 1)]?=some y:=by
  intro e
  by_cases hl:i+1 < L.length
  · exact⟨_,List.getElem?_eq_getElem hl⟩
  · rw[rAt_none (by omega)] at hd;omega
 have HD2:=Lh hd2
 clear hS htxt hG hd2
 have HR:=Lh h
 have HC:=Lh (And.intro hc hd)
 have HM:=Lh hm
 have hbl:=h.lt
 have HX:=Lh hx
 clear h hc hd hm hx
 have hec:=encode_size_le c
 have hed:=encode_size_le d
 have hz1:¬9223372036854775807 < (Utf8.encode c).size+ (Utf8.encode d).size:=by omega
 have hz2:¬9223372036854775807 < 1+ ((Utf8.encode c).size+ (Utf8.encode d).size):=by omega
 have hz3:¬9223372036854775807 < 1+ ((Utf8.encode c).size+ (Utf8.encode d).size)+1:=by omega
 clear hec hed
 go_enter Tryz.func55,Tryz.ntmps55
 go_wp2_with fail
 refine(rune_any (HR.out.keep ((Below.refl _ _).alloc (Nat.le_refl _) _)) 0 hL (by omega) (by omega)).mono ?_
 rintro e w1 ⟨rfl,hb1⟩
 have HB1:=Lh (((Below.refl _ w).alloc (Nat.le_refl _) _).trans (hb1.mono (by simp)))
 have HF1:=Lh ((FltAt.new w 0 0 0).below hb1 (by simp))
 clear hb1
 rw[Nat.add_zero,HC.out.1]
 go_wp2_with fail
 refine(rune_any (HR.out.keep HB1.out) 1 hL (by omega) (by omega)).mono ?_
 rintro e w2 ⟨rfl,hb2⟩
 have HB2:=Lh (HB1.out.trans (hb2.mono HB1.out.size))
 have HF2:=Lh (HF1.out.below hb2 HF1.out.lt)
 clear hb2 HB1 HF1
 rw[HC.out.2]
 by_cases hbad:c= -1
 · subst hbad
   have HS2:Hid (signT s L i T= ⟨1,x.line,x.col,i,T⟩):=by
    unfold Hid;rw[HS.out,if_pos];unfold signN;rw[if_neg (by omega),if_neg (by omega)]
   go_wp2_with fail
   refine(fault_any (HR.out.keep HB2.out) 1 x HX.out hL).mono ?_
   rintro e w3 ⟨rfl,hb3⟩
   have HB3:=Lh (HB2.out.trans (hb3.mono HB2.out.size))
   have HF3:=Lh (HF2.out.below hb3 HF2.out.lt)
   clear hb3
   have HK6:=Lh (((Took.of_rd (HR.out.keep HB3.out)).after HB3.out hB).stored (Nat.le_refl _) hbl hB HF3.out 1 x.line x.col)
   obtain⟨a0,a1,a2,a3,a4,a5⟩:=HF3.out.facts
   obtain⟨e0,e1,e2,_,_,_⟩:=(HF3.out.stored 1 x.line x.col).facts
   go_wp2
   exact bodyPost_ret (v:=.agg #[.int .i64 1,.int .i64 x.line,.int .i64 x.col]) (by simp[results,Tryz.results55,go_sem,e0,e1,e2]) rfl ⟨by rw[HS2.out];rfl,⟨_,by rw[HS2.out];exact HK6.out⟩⟩
 · obtain⟨m,hm⟩:=(show MaxCell w2 from HM.out.below HB2.out (by omega))
   go_wp2_with fail
   refine(Tryz.strings_Contains _ _ m _ (by decide) hm).mono ?_
   rintro e w' ⟨rfl,hw⟩
   subst hw
   rw[show Lib.contains (⟨#[32,60,61,32,62,61,32,33,61,32]⟩:ByteArray).data.toList _=_ from twos_is c d]
   clear hm
   by_cases h2:signN c d=2
   · rw[decide_eq_true h2]
     have HS2:Hid (signT s L i T= ⟨0,0,0,i+2,T ++ [⟨4,txt s L i 2,0,x.line,x.col⟩]⟩):=by
      unfold Hid;rw[HS.out,if_neg (by omega),h2]
     obtain⟨y,hy⟩:=HD2.out (by
      unfold signN at h2
      by_cases hq: (c=60∨c=62∨c=33)∧d=61
      · exact hq.2
      · rw[if_neg hq] at h2;split at h2 <;> omega)
     obtain⟨hg1,hg2⟩:=HGG.out _ y (by omega) hy
     have HY:=Lh hy
     clear hy h2
     go_wp2_with fail
     refine(take_any (HR.out.keep HB2.out) 4 2 x y HX.out HY.out (by omega) hL hT hg1 hg2 (by have:=HB2.out.size;omega)).mono ?_
     rintro e w3 ⟨g3,cap3,rfl,hk⟩
     rw[←HT.out 2 y HY.out] at hk
     have hfr:=HF2.out.took hk (by omega)
     have HK:=Lh (hk.after HB2.out hB)
     clear hk
     obtain⟨a0,a1,a2,a3,a4,a5⟩:=hfr.facts
     have HK6:=Lh (HK.out.stored (Nat.le_refl _) hbl hB hfr 0 0 0)
     obtain⟨e0,e1,e2,_,_,_⟩:=(hfr.stored 0 0 0).facts
     clear hfr
     go_wp2
     exact bodyPost_ret (v:=.agg #[.int .i64 0,.int .i64 0,.int .i64 0]) (by simp[results,Tryz.results55,go_sem,e0,e1,e2]) rfl ⟨by rw[HS2.out];rfl,⟨_,by rw[HS2.out];exact HK6.out⟩⟩
   · rw[decide_eq_false h2]
     by_cases h32:c≤32
     · have HS2:Hid (signT s L i T= ⟨1,x.line,x.col,i,T⟩):=by
        unfold Hid;rw[HS.out,if_pos]
        unfold signN at h2 ⊢
        by_cases hq: (c=60∨c=62∨c=33)∧d=61
        · omega
        · rw[if_neg hq,if_neg (by omega)]
       clear h2
       go_wp2_with fail
       refine(fault_any (HR.out.keep HB2.out) 1 x HX.out hL).mono ?_
       rintro e w3 ⟨rfl,hb3⟩
       have HB3:=Lh (HB2.out.trans (hb3.mono HB2.out.size))
       have HF3:=Lh (HF2.out.below hb3 HF2.out.lt)
       clear hb3
       have HK6:=Lh (((Took.of_rd (HR.out.keep HB3.out)).after HB3.out hB).stored (Nat.le_refl _) hbl hB HF3.out 1 x.line x.col)
       obtain⟨a0,a1,a2,a3,a4,a5⟩:=HF3.out.facts
       obtain⟨e0,e1,e2,_,_,_⟩:=(HF3.out.stored 1 x.line x.col).facts
       go_wp2
       exact bodyPost_ret (v:=.agg #[.int .i64 1,.int .i64 x.line,.int .i64 x.col]) (by simp[results,Tryz.results55,go_sem,e0,e1,e2]) rfl ⟨by rw[HS2.out];rfl,⟨_,by rw[HS2.out];exact HK6.out⟩⟩
     · by_cases h126:126 < c
       · have HS2:Hid (signT s L i T= ⟨1,x.line,x.col,i,T⟩):=by
          unfold Hid;rw[HS.out,if_pos]
          unfold signN at h2 ⊢
          by_cases hq: (c=60∨c=62∨c=33)∧d=61
          · omega
          · rw[if_neg hq,if_neg (by omega)]
         clear h2
         go_wp2_with fail
         refine(fault_any (HR.out.keep HB2.out) 1 x HX.out hL).mono ?_
         rintro e w3 ⟨rfl,hb3⟩
         have HB3:=Lh (HB2.out.trans (hb3.mono HB2.out.size))
         have HF3:=Lh (HF2.out.below hb3 HF2.out.lt)
         clear hb3
         have HK6:=Lh (((Took.of_rd (HR.out.keep HB3.out)).after HB3.out hB).stored (Nat.le_refl _) hbl hB HF3.out 1 x.line x.col)
         obtain⟨a0,a1,a2,a3,a4,a5⟩:=HF3.out.facts
         obtain⟨e0,e1,e2,_,_,_⟩:=(HF3.out.stored 1 x.line x.col).facts
         go_wp2
         exact bodyPost_ret (v:=.agg #[.int .i64 1,.int .i64 x.line,.int .i64 x.col]) (by simp[results,Tryz.results55,go_sem,e0,e1,e2]) rfl ⟨by rw[HS2.out];rfl,⟨_,by rw[HS2.out];exact HK6.out⟩⟩
       · have h33:33≤c:=by omega
         have h126':c≤126:=by omega
         have HO:=Lh (ones_is c h33 h126')
         by_cases h1: (c=60∨c=62∨c=61∨c=40∨c=41∨c=91∨c=93∨c=44∨c=59)
         · have hn1:signN c d=1:=by
            unfold signN at h2 ⊢
            by_cases hq: (c=60∨c=62∨c=33)∧d=61
            · rw[if_pos hq] at h2;omega
            · rw[if_neg hq,if_pos h1]
           have HS2:Hid (signT s L i T= ⟨0,0,0,i+1,T ++ [⟨4,txt s L i 1,0,x.line,x.col⟩]⟩):=by
            unfold Hid;rw[HS.out,if_neg (by omega),hn1]
           obtain⟨k,hk⟩:∃ k:Int,Lib.indexByte (⟨#[60,62,61,40,41,91,93,44,59]⟩:ByteArray).data.toList c.toNat.toUInt8=k:=⟨_,rfl⟩
           have hk0:0≤k:=by rw[←hk];exact HO.out.2 h1
           have HKK:=Lh hk
           obtain⟨y,hy⟩:∃ y,L[i+ (1 - 1)]?=some y:=⟨x,HX.out⟩
           obtain⟨hg1,hg2⟩:=HGG.out _ y (by omega) hy
           have HY:=Lh hy
           clear hy h2 h1 hk hn1
           go_wp2_with fail
           refine(Tryz.strings_IndexByte _ c _).mono ?_
           rintro e w' ⟨rfl,hw⟩
           subst hw
           rw[HKK.out]
           go_wp2_with fail
           refine(take_any (HR.out.keep HB2.out) 4 1 x y HX.out HY.out (by omega) hL hT hg1 hg2 (by have:=HB2.out.size;omega)).mono ?_
           rintro e w3 ⟨g3,cap3,rfl,hk⟩
           rw[←HT.out 1 y HY.out] at hk
           have hfr:=HF2.out.took hk (by omega)
           have HK:=Lh (hk.after HB2.out hB)
           clear hk
           obtain⟨a0,a1,a2,a3,a4,a5⟩:=hfr.facts
           have HK6:=Lh (HK.out.stored (Nat.le_refl _) hbl hB hfr 0 0 0)
           obtain⟨e0,e1,e2,_,_,_⟩:=(hfr.stored 0 0 0).facts
           clear hfr
           go_wp2
           exact bodyPost_ret (v:=.agg #[.int .i64 0,.int .i64 0,.int .i64 0]) (by simp[results,Tryz.results55,go_sem,e0,e1,e2]) rfl ⟨by rw[HS2.out];rfl,⟨_,by rw[HS2.out];exact HK6.out⟩⟩
         · have hn1:signN c d=0:=by
            unfold signN at h2 ⊢
            by_cases hq: (c=60∨c=62∨c=33)∧d=61
            · rw[if_pos hq] at h2;omega
            · rw[if_neg hq,if_neg h1]
           have HS2:Hid (signT s L i T= ⟨1,x.line,x.col,i,T⟩):=by
            unfold Hid;rw[HS.out,if_pos hn1]
           obtain⟨k,hk⟩:∃ k:Int,Lib.indexByte (⟨#[60,62,61,40,41,91,93,44,59]⟩:ByteArray).data.toList c.toNat.toUInt8=k:=⟨_,rfl⟩
           have hk0:k < 0:=by
            rw[←hk]
            have:=fun hh=>h1 (HO.out.1 hh)
            exact Int.not_le.1 this
           have HKK:=Lh hk
           clear h2 h1 hk hn1
           go_wp2_with fail
           refine(Tryz.strings_IndexByte _ c _).mono ?_
           rintro e w' ⟨rfl,hw⟩
           subst hw
           rw[HKK.out]
           go_wp2_with fail
           refine(fault_any (HR.out.keep HB2.out) 1 x HX.out hL).mono ?_
           rintro e w3 ⟨rfl,hb3⟩
           have HB3:=Lh (HB2.out.trans (hb3.mono HB2.out.size))
           have HF3:=Lh (HF2.out.below hb3 HF2.out.lt)
           clear hb3
           have HK6:=Lh (((Took.of_rd (HR.out.keep HB3.out)).after HB3.out hB).stored (Nat.le_refl _) hbl hB HF3.out 1 x.line x.col)
           obtain⟨a0,a1,a2,a3,a4,a5⟩:=HF3.out.facts
           obtain⟨e0,e1,e2,_,_,_⟩:=(HF3.out.stored 1 x.line x.col).facts
           go_wp2
           exact bodyPost_ret (v:=.agg #[.int .i64 1,.int .i64 x.line,.int .i64 x.col]) (by simp[results,Tryz.results55,go_sem,e0,e1,e2]) rfl ⟨by rw[HS2.out];rfl,⟨_,by rw[HS2.out];exact HK6.out⟩⟩
theorem Rd.moved {w:World} {B b:Nat} {s:ByteArray} {L:List Rn} {lv:Value} {i:Nat} {ov:Value} {T:List Tk} (h:Rd w B b s L lv i ov T) (j:Nat):Rd (w.setCell ⟨b,2,none⟩ (.int .i64 j)) B b s L lv j ov T:=
 ⟨heap_setCell_same w b 2 _ _ _ h.blk,h.low,owns_setCell h.run h.blk (by decide) _ _,owns_setCell h.out h.blk (by decide) _ _⟩
theorem Took.moved {w w':World} {B b:Nat} {s:ByteArray} {L:List Rn} {lv:Value} {i:Nat} {ov:Value} {T:List Tk} (h:Took w w' B b s L lv i ov T) (j:Nat):Took w (w'.setCell ⟨b,2,none⟩ (.int .i64 j)) B b s L lv j ov T:=
 ⟨h.rd.moved j,h.low.setCell (p:=⟨b,2,none⟩) h.rd.low _,h.kept.setCell ⟨b,2,none⟩ rfl _⟩
theorem Rd.drewN {w:World} {B b:Nat} {s:ByteArray} {L:List Rn} {lv:Value} {i:Nat} {ov:Value} {T:List Tk} (h:Rd w B b s L lv i ov T) (n:Nat):Rd (w.drewN n) B b s L lv i ov T:=⟨h.blk,h.low,h.run,h.out⟩
theorem rune_q {w:World} {B b:Nat} {s:ByteArray} {L:List Rn} {lv:Value} {i:Nat} {ov:Value} {T:List Tk} (h:Rd w B b s L lv i ov T) (n:Nat) (r:Int) (hr:rAt L (i+n)=r) (hL:L.length≤16385) (hi:i≤16385) (hn:n≤16385) :
 Calls Tryz.prog 52 #[.pointer (some ⟨b,0,none⟩),.int .i64 n] w fun e w'=>e=.returned (.int .i32 r)∧∃ m,w'=w.drewN m:=by
 obtain⟨c0,c1,c2,c3,f2,f3⟩:=h.facts
 by_cases hlt:i+n < L.length
 · obtain⟨x,hx⟩:∃ x,L[i+n]?=some x:=⟨_,List.getElem?_eq_getElem hlt⟩
   have HA:=Lh ((rAt_some hx).symm.trans hr)
   obtain⟨g,cap,rfl,d0,d1,d2,d3,d4⟩:=h.rune hx
   have hz1: (i:Int)+n < (L.length:Int):=by omega
   have hz0: (0:Int)≤(i:Int)+n:=by omega
   have ht: ((i:Int)+ (n:Int)).toNat=i+n:=by omega
   clear h hx d1 d2 d3 d4 c0 c3 f2 f3 hr
   go_enter Tryz.func52,Tryz.ntmps52
   go_wp2
   go_quiet (fail)
   go_wp2
   go_quiet (fail)
   go_wp2
   go_ret
   exact⟨by rw[HA.out];rfl,⟨_,by rw[World.drewN_drewN]⟩⟩
 · have HA:=Lh ((rAt_none (L:=L) (i:=i+n) (by omega)).symm.trans hr)
   obtain⟨ad,cap,rfl⟩:=owns_len h.run
   have hz1:¬(i:Int)+n < (L.length:Int):=by omega
   clear h c0 c3 f2 f3 hr
   go_enter Tryz.func52,Tryz.ntmps52
   go_wp2
   go_quiet (fail)
   go_wp2
   go_ret
   exact⟨by rw[HA.out];rfl,⟨_,rfl⟩⟩
def placeOf (w:World) (b:Nat):Nat:=match w.cell? ⟨b,2,none⟩ with|some v=>(intOf v).toNat|none=>0
theorem Rd.place {w:World} {B b:Nat} {s:ByteArray} {L:List Rn} {lv:Value} {i:Nat} {ov:Value} {T:List Tk} (h:Rd w B b s L lv i ov T):placeOf w b=i:=by
 unfold placeOf;rw[h.facts.2.2.1];simp[intOf]
theorem rest_any {w:World} {B b:Nat} {s:ByteArray} {L:List Rn} {lv:Value} {i:Nat} {ov:Value} {T:List Tk} (h:Rd w B b s L lv i ov T) (hB:B≤w.heap.size) (hL:L.length≤16385) (hi:i≤L.length) :
 Calls Tryz.prog 54 #[.pointer (some ⟨b,0,none⟩)] w (Stepped w B b s L lv (restT L i T)):=by
 have hbl:=h.lt
 have H0:=Lh ((Took.of_rd (h.keep ((Below.refl _ _).alloc (Nat.le_refl _) oB3))).after ((Below.refl _ _).alloc (Nat.le_refl _) _) hB)
 have F0:=Lh (FltAt.new w 0 0 0)
 clear h
 go_enter Tryz.func54,Tryz.ntmps54
 go_wp2
 go_loopw [] (fun wr=>∃ (k:Nat),k≤L.length∧Took w wr B b s L lv k ov T∧FltAt wr w.heap.size 0 0 0∧Hid (rowE restB L i=rowE restB L k)) (fun wr=>L.length - placeOf wr b)
 case atStart=>exact⟨i,hi,H0.out,F0.out,rfl⟩
 case round=>
  obtain⟨k,hk,hK,hF,HE⟩:=hrel
  have hbr:=hK.rd.lt
  obtain⟨ad,cap,hlv⟩:=owns_len hK.rd.run
  obtain⟨c0,c1,c2,c3,f2,f3⟩:=hK.rd.facts
  rw[hlv] at c1
  have HLV:=Lh hlv
  have HK:=Lh hK
  have HF:=Lh hF
  clear hlv hK H0 F0 c0 c3 f3
  by_cases hlt:k < L.length
  · obtain⟨x,hx⟩:∃ x,L[k]?=some x:=⟨_,List.getElem?_eq_getElem hlt⟩
    obtain⟨r,hr⟩:∃ r,x.r=r:=⟨_,rfl⟩
    have HA:=Lh ((rAt_some hx).trans hr)
    have HX:=Lh hx
    have hz: (k:Int) < (L.length:Int):=by omega
    clear hx hr
    by_cases h10:r=10
    · subst h10
      have HS2:Hid (restT L i T= ⟨0,0,0,k,T⟩):=by
       unfold Hid restT;rw[HE.out,rowE_no _ _ _ (by rw[HA.out];rfl),if_neg];rw[HA.out];omega
      obtain⟨a0,a1,a2,a3,a4,a5⟩:=hF.facts
      go_wp2
      go_quiet ((go_at_call 52;exact Calls.quiet_of (rune_q (HK.out.rd.drewN _) 0 10 HA.out hL (by omega) (by omega))))
      have HK6:=Lh ((HK.out.drewN nq).stored (Nat.le_refl _) hbl hB (HF.out.drewN nq) 0 0 0)
      obtain⟨e0,e1,e2,_,_,_⟩:=((HF.out.drewN nq).stored 0 0 0).facts
      clear hF
      go_wp2
      exact bodyPost_ret (v:=.agg #[.int .i64 0,.int .i64 0,.int .i64 0]) (by simp[results,Tryz.results54,go_sem,e0,e1,e2]) rfl ⟨by rw[HS2.out];rfl,⟨_,by rw[HS2.out];exact HK6.out⟩⟩
    · have h10': (r == 10)=false:=beq_eq_false_iff_ne.2 h10
      by_cases hb1:r= -1
      · subst hb1
        have HS2:Hid (restT L i T= ⟨1,x.line,x.col,k,T⟩):=by
         unfold Hid restT;rw[HE.out,rowE_no _ _ _ (by rw[HA.out];rfl),if_pos ⟨hlt,by rw[HA.out]⟩,(at_some HX.out).2.2.2.1,(at_some HX.out).2.2.2.2]
        clear hF
        go_wp2
        go_quiet ((go_at_call 52;exact Calls.quiet_of (rune_q (HK.out.rd.drewN _) 0 (-1) HA.out hL (by omega) (by omega))))
        go_wp2_with fail
        refine(rune_q (HK.out.rd.drewN _) 0 (-1) HA.out hL (by omega) (by omega)).mono ?_
        rintro e w' ⟨rfl,m,rfl⟩
        rw[World.drewN_drewN]
        go_wp2_with fail
        refine(fault_any (HK.out.rd.drewN _) 1 x HX.out hL).mono ?_
        rintro e w3 ⟨rfl,hb3⟩
        have HK3:=Lh ((HK.out.drewN _).then hb3 hB)
        have HF3:=Lh ((HF.out.drewN _).below hb3 (HF.out.drewN _).lt)
        clear hb3
        have HK6:=Lh (HK3.out.stored (Nat.le_refl _) hbl hB HF3.out 1 x.line x.col)
        obtain⟨a0,a1,a2,a3,a4,a5⟩:=HF3.out.facts
        obtain⟨e0,e1,e2,_,_,_⟩:=(HF3.out.stored 1 x.line x.col).facts
        go_wp2
        exact bodyPost_ret (v:=.agg #[.int .i64 1,.int .i64 x.line,.int .i64 x.col]) (by simp[results,Tryz.results54,go_sem,e0,e1,e2]) rfl ⟨by rw[HS2.out];rfl,⟨_,by rw[HS2.out];exact HK6.out⟩⟩
      · have hb1': (r == -1)=false:=beq_eq_false_iff_ne.2 hb1
        have HE2:Hid (rowE restB L i=rowE restB L (k+1)):=by
         unfold Hid;rw[HE.out]
         exact rowE_yes _ (by decide) _ _ (by rw[HA.out];unfold restB;exact decide_eq_true ⟨h10,hb1⟩)
        have hF2:=HF.out
        clear h10 hb1
        go_wp2
        go_quiet ((go_at_call 52;exact Calls.quiet_of (rune_q (HK.out.rd.drewN _) 0 r HA.out hL (by omega) (by omega))))
        go_wp2_with fail
        refine(rune_q (HK.out.rd.drewN _) 0 r HA.out hL (by omega) (by omega)).mono ?_
        rintro e w' ⟨rfl,m,rfl⟩
        rw[World.drewN_drewN]
        have HK7:=Lh ((HK.out.drewN (nq+m)).moved (k+1))
        have HF7:=Lh ((HF.out.drewN (nq+m)).setOther (g:=b) (j:=2) (by omega) (.int .i64 (k+1:Nat)))
        go_wp2
        go_roundw
        case rel=>exact⟨k+1,by omega,HK7.out,HF7.out,HE2⟩
        case measure=>
         have p1:placeOf ((wr.drewN (nq+m)).setCell ⟨b,2,none⟩ (.int .i64 ((k:Int)+1))) b=k+1:=HK7.out.rd.place
         have p2:placeOf wr b=k:=HK.out.rd.place
         omega
  · have HS2:Hid (restT L i T= ⟨0,0,0,k,T⟩):=by
     unfold Hid restT;rw[HE.out]
     have:rowE restB L k=k:=by have:=rowE_ge restB L k;omega
     rw[this,if_neg];omega
    have hz:decide ((k:Int) < (L.length:Int))=false:=decide_eq_false (by omega)
    clear hF
    go_wp2
    go_quiet (fail)
    have HK6:=Lh ((HK.out.drewN nq).stored (Nat.le_refl _) hbl hB (HF.out.drewN nq) 0 0 0)
    obtain⟨a0,a1,a2,a3,a4,a5⟩:=(HF.out.drewN nq).facts
    obtain⟨e0,e1,e2,_,_,_⟩:=((HF.out.drewN nq).stored 0 0 0).facts
    go_wp2
    exact bodyPost_ret (v:=.agg #[.int .i64 0,.int .i64 0,.int .i64 0]) (by simp[results,Tryz.results54,go_sem,e0,e1,e2]) rfl ⟨by rw[HS2.out];rfl,⟨_,by rw[HS2.out];exact HK6.out⟩⟩
end Go.Proofs.YthlofmnmacpogaaGreatDoor
