import Derived.Test.YtadjnfpomjopkaaGreatSm42
namespace Go.Proofs.YtadjnfpomjopkaaGreat
open Go.RowKit
theorem appM_run {w:World} {base:Nat} {v:Value} {n:Nat} {xs:List Value} (hown:w.ownsRow base 58 3 v n xs) {vx:Value} {L:List Mq} (hr:MqIn w vx L) (hbytes:n+L.length≤100000) (hbase:base≤w.heap.size) :
 ∃ v' w',(Builtin.append_ #[33,33] 33 #[v,vx]).run Tryz.prog w=.ok v' w'∧w'.ownsRow base 58 3 v' (n+L.length) (xs ++mqF L)∧Below base w w':=by
 obtain⟨i,hi,hz0,hz1,hz2⟩:=info_parts info_move
 have ht:Tryz.prog.underlying 33=some (.slice 58):=Tryz.underlying33
 have h63:n+L.length≤maxLen:=by unfold maxLen;omega
 have hlen:=mqF_len L
 have key:∀ ad m c,vx=.slice (some ad) m c→L.length=m→(∀ j u,(mqF L)[j]?=some u→w.cell? (ad.add j)=some u)→∃ v' w',(Builtin.append_ #[33,33] 33 #[v,vx]).run Tryz.prog w=.ok v' w'∧w'.ownsRow base 58 3 v' (n+L.length) (xs ++mqF L)∧Below base w w':=by
  rintro ad m c rfl hm hc
  obtain⟨v',w',h2,h3,h4,_⟩:=run_append_own (P:=Tryz.prog) w base 33 33 58 i mqZero 3 40 ht hi hz0 hz1 hz2 rfl (by decide) v n xs hown ad m c (mqF L) (by omega) hc (mqF_one fun _ _=>trivial) (by omega) (by omega) hbase
  exact⟨v',w',h2,by rw[hm];exact h3,below_of_grown h4 (fun k hk=>(hown.lt k hk).1) hbase⟩
 obtain⟨ad,cap,hv,_,hr⟩:=hr
 rcases hr with hn| ⟨b,off,rfl,_,hc⟩
 · subst hn
   cases ad with
   | some ad=>exact key ad 0 cap hv rfl (by intro j u hu;simp[mqF] at hu)
   | none=>
     subst hv
     exact⟨v,w,run_app_noneM (P:=Tryz.prog) (w:=w) (base:=base) 33 33 _ i 3 cap ht hi v n xs hown,by simpa [mqF] using hown,Below.refl _ _⟩
 · refine key ⟨b,off,none⟩ _ cap hv rfl (fun j u hu=>?_)
   have hj:=(List.getElem?_eq_some_iff.1 hu).1
   have e: (⟨b,off,none⟩:Addr).add j= ⟨b,off+j,none⟩:=by unfold Addr.add;split <;> simp_all
   have hk:j / 3 < L.length:=by omega
   have hy:=List.getElem?_eq_getElem hk
   have c:=hc (j / 3) _ hy (j % 3) (Nat.mod_lt _ (by decide))
   have f:=mqF_get L (j / 3) (j % 3) _ hy (Nat.mod_lt _ (by decide))
   rw[show j / 3 * 3+j % 3=j by omega] at f
   rw[Nat.add_assoc,show j / 3 * 3+j % 3=j by omega] at c
   rw[e,c,←f,hu]
def MqV (w:World) (x:Mq):Prop:=RowE intE 1 w (.slice x.2.1 x.1.vals.length x.2.2) x.1.vals
theorem MqV.keep {w w':World} {x:Mq} (h:MqV w x) (hb:Below w.heap.size w w'):MqV w' x:=RowE.below h intE_keep hb
theorem rowM_of {w:World} {v:Value} {C:List Mq} (h:MqIn w v C) (hq:∀ x ∈ C,MqV w x):RowE moveE 3 w v (C.map (·.1)):=by
 obtain⟨ad,cap,hv,hz,h⟩:=h
 refine⟨ad,cap,by rw[List.length_map];exact hv,by rw[List.length_map];exact hz,?_⟩
 rcases h with h| ⟨g,off,ha,hg,hc⟩
 · exact .inl (by rw[h];rfl)
 refine .inr ⟨g,off,ha,hg,fun i a hi=>?_⟩
 rw[List.getElem?_map] at hi
 cases hx:C[i]? with
 | none=>rw[hx] at hi;simp at hi
 | some x=>
   rw[hx] at hi
   simp only[Option.map_some,Option.some.injEq] at hi
   subst hi
   refine⟨mqC x,rfl,⟨_,rfl,hq x (List.mem_of_getElem? hx)⟩,fun j u hj=>?_⟩
   have hj3:j < 3:=by have:=(List.getElem?_eq_some_iff.1 hj).1;simpa [mqC] using this
   rw[hc i x hx j hj3,hj]
theorem mq_of {w:World} {v:Value} {L:List Mv} (h:RowE moveE 3 w v L):∃ Lq:List Mq,Lq.map (·.1)=L∧MqIn w v Lq∧∀ x ∈ Lq,MqV w x:=by
 have H:∀ i,∃ p:Option Addr × Nat,∀ x,L[i]?=some x→MqV w (x,p)∧∃ b off cap,v=.slice (some ⟨b,off,none⟩) L.length cap∧b < w.heap.size∧∀ j,j < 3→w.cell? ⟨b,off+i * 3+j,none⟩ = (mqC (x,p))[j]?:=by
  intro i
  cases hx:L[i]? with
  | none=>exact⟨(none,0),fun x e=>by cases e⟩
  | some x=>
    obtain⟨b,off,cap,ai,ki,hv,hb,hr,c0,c1,c2⟩:=moveRow h hx
    refine⟨(ai,ki),fun y e=>?_⟩
    obtain rfl:x=y:=Option.some.inj e
    refine⟨hr,b,off,cap,hv,hb,fun j hj=>?_⟩
    rcases j with _|_|_|j
    · exact c0
    · exact c1
    · exact c2
    · omega
 obtain⟨F,hF⟩:∃ F:Nat→Option Addr × Nat,∀ i,∀ x,L[i]?=some x→MqV w (x,F i)∧∃ b off cap,v=.slice (some ⟨b,off,none⟩) L.length cap∧b < w.heap.size∧∀ j,j < 3→w.cell? ⟨b,off+i * 3+j,none⟩ = (mqC (x,F i))[j]?:=⟨fun i=>Classical.choose (H i),fun i=>Classical.choose_spec (H i)⟩
 clear H
 refine⟨L.mapIdx fun i x=>(x,F i),?_,?_,?_⟩
 · refine List.ext_getElem? fun i=>?_
   rw[List.getElem?_map,List.getElem?_mapIdx]
   cases L[i]? <;> rfl
 · obtain⟨ad,cap,hv,hz,hr⟩:=h
   refine⟨ad,cap,by rw[List.length_mapIdx];exact hv,by rw[List.length_mapIdx];exact hz,?_⟩
   rcases hr with hr| ⟨g,off,ha,hg,-⟩
   · exact .inl (by rw[hr];rfl)
   refine .inr ⟨g,off,ha,hg,fun k y hy j hj=>?_⟩
   rw[List.getElem?_mapIdx] at hy
   cases hx:L[k]? with
   | none=>rw[hx] at hy;simp at hy
   | some x=>
     rw[hx] at hy
     simp only[Option.map_some,Option.some.injEq] at hy
     obtain⟨-,b,off',cap',hv',-,hc⟩:=hF k x hx
     rw[hv] at hv'
     simp only[Value.slice.injEq] at hv'
     rw[ha] at hv'
     have e:=hv'.1
     simp only[Option.some.injEq,Addr.mk.injEq,and_true] at e
     obtain⟨rfl,rfl⟩:=e
     rw[hc j hj,←hy]
 · intro y hy
   obtain⟨k,hk⟩:=List.getElem?_of_mem hy
   rw[List.getElem?_mapIdx] at hk
   cases hx:L[k]? with
   | none=>rw[hx] at hk;simp at hk
   | some x=>
     rw[hx] at hk
     simp only[Option.map_some,Option.some.injEq] at hk
     rw[←hk]
     exact(hF k x hx).1
section
variable {α β:Type} (f:α→β) (p:List β→Bool)
theorem lessG_map (i:Nat) (L:List α): (lessG i L).map f=lessG i (L.map f):=by unfold lessG;rw[List.map_append,List.map_take,List.map_drop]
theorem passG_map:∀ (i:Nat) (L:List α),(passG (fun C=>p (C.map f)) i L).map f=passG p i (L.map f)
 | 0,L=>rfl
 | i+1,L=>by
   rw[passG,passG,lessG_map]
   split
   · rw[passG_map i,lessG_map]
   · exact passG_map i L
theorem runN_map:∀ (k:Nat) (L:List α),(runN (fun C=>p (C.map f)) k L).map f=runN p k (L.map f)
 | 0,L=>rfl
 | k+1,L=>by
   have e: (passG p (L.map f).length (L.map f)).length= (passG (fun C=>p (C.map f)) L.length L).length:=by rw[List.length_map,←passG_map,List.length_map]
   rw[runN,runN,e,List.length_map]
   split
   · rfl
   · rw[runN_map k,passG_map]
theorem shrG_map (L:List α): (shrG (fun C=>p (C.map f)) L).map f=shrG p (L.map f):=by
 unfold shrG
 split
 · rw[runN_map,List.length_map]
 · rfl
end
end Go.Proofs.YtadjnfpomjopkaaGreat
namespace Go.Proofs.YtadjnfpomjopkaaGreat
open Go.RowKit
def lenV:Value→Nat
 | .slice _ n _=>n
 | _=>0
def msrB (v a:Value):Nat:=lenV v * 2+ (match a with|.bool true=>1|_=>0)
set_option maxRecDepth 100000 in
set_option maxHeartbeats 8000000 in
theorem rmovesQ {w:World} {q:Mem} {M:Mdl} (hm:MdQ w q M) {lad:Option Addr} {lcp:Nat} {Lq:List Mq} (hl:MqIn w (.slice lad Lq.length lcp) Lq) (hq:∀ y ∈ Lq,MqV w y) (hLn:∀ y ∈ Lq,∀ n ∈ y.1.vals,N64 n) (hg:GoodD M) (hr:GoodR M) (hlen:Lq.length≤1000) (x:Ins) :
 Calls Tryz.prog 11 #[.agg (mdC q M),.slice lad Lq.length lcp,.agg (insC x)] w fun e w'=>∃ v',e=.returned v'∧MqIn w' v' (shrG (fun C=>runsS M x (C.map (·.1))) Lq)∧Below w.heap.size w w':=by
 obtain⟨P,hP⟩:∃ P:List Mq→Bool,(fun C=>runsS M x (C.map (·.1)))=P:=⟨_,rfl⟩
 obtain⟨W1,h1,HB1,HM,HF⟩:=boxM hm
 obtain⟨W2,h2,hb2,x2⟩:=box1 W1 (insC x) 37
 have HBW:Hid (∀ V,Below W2.heap.size W2 V→Below w.heap.size w V):=fun V hV=>HB1.out.trans ((hb2.trans (hV.mono hb2.size)).mono HB1.out.size)
 have HRU:Hid (∀ V ad n cp (C:List Mq),Below W2.heap.size W2 V→MqIn V (.slice ad n cp) C→(∀ y ∈ C,y ∈ Lq)→C.length≤1000→Calls Tryz.prog 13 #[.agg (mdC q M),.slice ad n cp,.agg (insC x)] V (Ret V (.bool (P C)))):=by
  intro V ad n cp C hV hC hmem hcl
  have hrw:=rowM_of hC (fun y hy=>(hq y (hmem y hy)).keep (HBW.out V hV))
  obtain⟨ad',cp',e⟩:=hrw.len
  rw[e] at hrw ⊢
  rw[←hP]
  exact rrunsQ (HM.out.below (hb2.trans (hV.mono hb2.size))) hrw (fun v hv=>by
   obtain⟨y,hy,rfl⟩:=List.mem_map.1 hv
   exact hLn y (hmem y hy)) hg hr (by rw[List.length_map];exact hcl) x
 have HFX:Hid (∀ V,Below W2.heap.size W2 V→(MdB V w.heap.size q M)∧Blk V W1.heap.size (insC x) 37):=fun V hV=>⟨HF.out V (hb2.trans (hV.mono hb2.size)),x2.keep hV⟩
 have HL2:Hid (MqIn W2 (.slice lad Lq.length lcp) Lq):=hl.keep (HB1.out.trans (hb2.mono HB1.out.size))
 obtain⟨R,hRS⟩:∃ R,shrG P Lq=R:=⟨_,rfl⟩
 have HRS:=Lib.hid hRS
 rw[hP,hRS]
 unfold MdB at HFX
 unfold insC at HFX
 unfold insC at h2 HRU ⊢
 unfold mdC at h1 HRU ⊢
 obtain⟨W3,h3,hb3,-⟩:=box1 W2 #[] 58
 have own3:W3.ownsRow W2.heap.size 58 3 (.slice (some ⟨W2.heap.size,0,none⟩) 0 0) 0 []:=by rw[←h3];exact World.ownsRow_lit W2 #[] 0 (Nat.le_refl _) (Nat.zero_le _) rfl
 have HO3:=Lib.hid own3
 have HB3:=Lib.hid hb3
 have HL3:=Lib.hid (HL2.out.keep hb3)
 clear hm hl hq hLn hg hr x2 hb2 hb3 own3 HM HF hRS hP
 go_enter Tryz.func11,Tryz.ntmps11
 go_upto_region 2 with(first
  | (at_builtin;refine appM W3 rfl _ _ rfl W2.heap.size _ 0 [] rfl (by exact HO3.out) _ Lq rfl (by exact HL3.out) (fun _ _=>trivial) (by omega) HB3.out.size ?_
     intro v4 w4 hown4 hb4
     have HB4:=Lib.hid (HB3.out.trans hb4)
     rw[Nat.zero_add,List.nil_append] at hown4
     obtain⟨ad4,cap4,hv4⟩:=owns_len hown4
     subst hv4
     have HI4:=Lib.hid (MqIn.of_row hown4)
     clear hown4 hb4)
  | fail)
 obtain⟨⟨c0,c1,c2,c3,c4,c5,c6,c7,c8,c9⟩,hx⟩:=HFX.out _ HB4.out
 have y0:=hx.cell (i:=0) rfl
 have y1:=hx.cell (i:=1) rfl
 have y2:=hx.cell (i:=2) rfl
 have y3:=hx.cell (i:=3) rfl
 have y4:=hx.cell (i:=4) rfl
 have y5:=hx.cell (i:=5) rfl
 have y6:=hx.cell (i:=6) rfl
 clear hx
 have HR4:=Lib.hid (HRU.out w4 _ _ _ Lq HB4.out HI4.out (fun _ hy=>hy) hlen)
 go_wp2_with fail
 refine HR4.out.mono ?_
 rintro e5 w5 ⟨rfl,hb5⟩
 have HB5:=Lib.hid (HB4.out.trans (hb5.mono HB4.out.size))
 have HI5:=Lib.hid (HI4.out.keep hb5)
 obtain⟨b0,hb0⟩:∃ b,P Lq=b:=⟨_,rfl⟩
 have HP0:Hid ((b0=true→∃ k,Lq.length < k∧runN P k Lq=R)∧(b0=false→Lq=R)):=by
  have h:=HRS.out
  unfold shrG at h
  refine⟨fun e=>⟨Lq.length+1,by omega,by rw[if_pos (by rw[hb0,e])] at h;exact h⟩,fun e=>by rw[if_neg (by rw[hb0,e];simp)] at h;exact h⟩
 rw[hb0]
 clear hb5 hb0 HR4 c0 c1 c2 c3 c4 c5 c6 c7 c8 c9 y0 y1 y2 y3 y4 y5 y6
 go_wp2
 go_loopw [7,8] (fun vo ag wr=>∃ (C:List Mq) (b:Bool),ag=.bool b∧C.length≤Lq.length∧Hid (MqIn wr vo C∧(∀ y ∈ C,y ∈ Lq)∧Below W2.heap.size W2 wr∧(b=true→∃ k,C.length < k∧runN P k C=R)∧(b=false→C=R))) (fun vo ag _=>msrB vo ag)
 case atStart=>exact⟨Lq,b0,rfl,Nat.le_refl _,HI5.out,fun y hy=>hy,HB5.out,HP0.out.1,HP0.out.2⟩
 case round=>
  obtain⟨C,b,rfl,hcl,HALL⟩:=hrel
  obtain⟨hC,hmem,hB,hb1,hb2⟩:=HALL.out
  obtain⟨adC,capC,hvC⟩:=hC.len
  subst hvC
  cases b
  · have HE:Hid (C=R):=hb2 rfl
    have HCC:=Lib.hid (And.intro hC hB)
    clear hC hmem hB hb1 hb2 HALL
    go_wp2
    go_ret
    exact⟨_,rfl,by rw[←HE.out];exact HCC.out.1,HBW.out _ HCC.out.2⟩
  · obtain⟨kk,hkk,hrun⟩:=hb1 rfl
    obtain⟨M2,hM2⟩:∃ M2,passG P C.length C=M2:=⟨_,rfl⟩
    have HM0:=Lib.hid (And.intro hC (And.intro hmem hB))
    have HP2:=Lib.hid hM2
    have HRUN:=Lib.hid (And.intro hkk hrun)
    have hnm:-1≤(C.length:Int) - 1:=by omega
    obtain⟨wo,hwo⟩:∃ w',w'=wr:=⟨_,rfl⟩
    subst hwo
    clear hC hmem hB hb1 hb2 HALL hM2 hkk hrun
    go_wp2
    go_loopw [7,8,9] (fun vo ag io wr=>∃ (D:List Mq) (bb:Bool) (j:Int),ag=.bool bb∧io=.int .i64 j∧ -1≤j∧j < (D.length:Int)∧D.length≤C.length∧Hid (MqIn wr vo D∧(∀ y ∈ D,y ∈ Lq)∧Below W2.heap.size W2 wr∧passG P (j+1).toNat D=M2∧bb=decide (D.length < C.length))) (fun _ _ io _=>(intOf io+1).toNat)
    case atStart=>exact⟨C,false,_,rfl,rfl,hnm,by omega,Nat.le_refl _,HM0.out.1,HM0.out.2.1,HM0.out.2.2,by rw[show((C.length:Int) - 1+1).toNat=C.length by omega];exact HP2.out,by simp⟩
    case round=>
     obtain⟨D,bb,j,rfl,rfl,hj0,hjd,hdc,HALL⟩:=hrel
     obtain⟨hD,hmem,hB,hpass,hbb⟩:=HALL.out
     obtain⟨adD,capD,hvD⟩:=hD.len
     have hcapD:D.length≤capD∧capD≤maxLen:=by
      obtain⟨_,_,he,hz,_⟩:=hD
      rw[hvD] at he
      simp only[Value.slice.injEq] at he
      rw[he.2.2];exact hz.2
     subst hvD
     have HDC:=Lib.hid hdc
     by_cases hneg:j < 0
     · have hj:j= -1:=by omega
       subst hj
       have HE:Hid (D=M2):=hpass
       have HCC:=Lib.hid (And.intro hD (And.intro hmem (And.intro hB hbb)))
       have HNB:Hid ((bb=true→∃ k,D.length < k∧runN P k D=R)∧(bb=false→D=R)):=by
        refine⟨fun e=>?_,fun e=>?_⟩
        · rw[e] at hbb
          have hlt:=of_decide_eq_true hbb.symm
          have hgo:=runN_go HRUN.out.1 HRUN.out.2 (by rw[HP2.out,←HE.out];omega)
          rw[HP2.out,←HE.out] at hgo
          exact hgo
        · rw[e] at hbb
          have hlt:=of_decide_eq_false hbb.symm
          have hp2: (passG P C.length C).length=C.length:=by rw[HP2.out,←HE.out];omega
          rw[runN_stop HRUN.out.1 HRUN.out.2 hp2,HE.out,←HP2.out,passG_same P C.length C (Nat.le_refl _) hp2]
       have HMS:Hid (msrB (.slice adD D.length capD) (.bool bb) < msrB (.slice adC C.length capC) (.bool true)):=by
        unfold Hid msrB lenV
        cases bb
        · dsimp only;omega
        · have hlt:=of_decide_eq_true hbb.symm
          dsimp only;omega
       clear hD hmem hB hpass hbb HALL hneg hj0 hjd hcapD
       go_wp2
       go_roundw
       case rel=>exact⟨D,bb,rfl,by omega,HCC.out.1,HCC.out.2.1,HCC.out.2.2.1,HNB.out.1,HNB.out.2⟩
       case measure=>exact HMS.out
     · obtain⟨jn,rfl⟩:∃ jn:Nat,j= (jn:Int):=⟨j.toNat,by omega⟩
       have hjn:jn < D.length:=by omega
       have hll:=lessG_len hjn
       have HNX:Hid ((P (lessG jn D)=true→passG P jn (lessG jn D)=M2)∧(P (lessG jn D)=false→passG P jn D=M2)):=by
        rw[show((jn:Int)+1).toNat=jn+1 by omega] at hpass
        rw[passG] at hpass
        refine⟨fun h=>by rw[if_pos h] at hpass;exact hpass,fun h=>by rw[if_neg (by rw[h];decide)] at hpass;exact hpass⟩
       have HLM:Hid (∀ y ∈ lessG jn D,y ∈ Lq):=fun y hy=>hmem y (lessG_mem hy)
       obtain⟨yy,hyy⟩:∃ y,D[jn]?=some y:=⟨_,List.getElem?_eq_getElem hjn⟩
       obtain⟨g,off,cap,hv,hgl,-⟩:=hD.at hyy
       simp only[Value.slice.injEq] at hv
       obtain⟨rfl,-,rfl⟩:=hv
       obtain⟨hcl1,hcm⟩:=hcapD
       have HCC:=Lib.hid (And.intro hD (And.intro hmem (And.intro hB (And.intro hdc hbb))))
       have hjz: (0:Int)≤(jn:Int):=by omega
       have hiz: (jn:Int) < (D.length:Int):=by omega
       have hw1:wrap64 ((jn:Int)+1)= (jn:Int)+1:=by unfold wrap64;omega
       have hw0:IntKind.i64.wrap ((jn:Int)+1)= (jn:Int)+1:=IntWalk.i64_in _ ⟨by omega,by omega⟩
       have hjz1: (0:Int)≤(jn:Int)+1:=by omega
       have hw2: ((jn:Int)+1).toNat=jn+1:=by omega
       have hiz1: (jn:Int)+1≤(D.length:Int):=by omega
       have hlt1: (D.take jn).length=jn:=by rw[List.length_take,Nat.min_eq_left (by omega)]
       have hlt2: (D.drop (jn+1)).length=D.length - (jn+1):=List.length_drop
       have HLE:Hid ((D.take jn).length+ (D.drop (jn+1)).length= (D.take jn ++D.drop (jn+1)).length):=by unfold Hid;rw[List.length_append]
       have hcm':capD≤9223372036854775807:=by unfold maxLen at hcm;omega
       have hic:jn≤capD:=by omega
       unfold lessG at HNX HLM hll
       clear hD hmem hB hpass hbb HALL hneg hj0 hyy hgl
       by_cases hci:capD=jn+1
       · subst hci
         have hq1: (jn:Int)≤(jn:Int)+1:=by omega
         go_upto_region 8 with fail
         have hbz:Below wr.heap.size wr wr.drew:=(Below.refl _ _).drew
         refine startH (S:=fun _=>True) (by kernel_rfl) trivial (fun hHeld=>?_)
         generalize wr.drew=Dw at hbz hHeld ⊢
         have HDS:=Lib.hid hbz.size
         refine takesH [1,2,3,5,6,7,8] (by kernel_rfl) (fun _ _ d _ _ h=>by cases d <;> exact h) (by kernel_rfl) (by kernel_rfl) (by assumption) ?_
         repeat (first
          | (refine TakeSeq.cons (v:=?_) rfl (by rfl) ?_ ?_
             rotate_left
             · ((intro w hSw;go_simp) <;> (try with_reducible rfl))
             (try go_simp))
          | (refine TakeSeq.skip rfl (by rfl) ?_;(try go_simp)))
         refine TakeSeq.nil ?_
         refine callH 0 (by kernel_rfl) (by kernel_rfl) rfl (by rfl) ?_
         obtain⟨V1,hv1,hbn,-⟩:=box1 Dw #[] 58
         have own1:V1.ownsRow Dw.heap.size 58 3 (.slice (some ⟨Dw.heap.size,0,none⟩) 0 0) 0 []:=by rw[←hv1];exact World.ownsRow_lit Dw #[] 0 (Nat.le_refl _) (Nat.zero_le _) rfl
         intro K hK
         go_simp
         have hsz1:=hbn.size
         have hbz:=hbz.trans (hbn.mono hbz.size)
         refine hK.out _ _ trivial (fun hHeld=>?_)
         clear hK K hv1
         (try go_simp)
         refine callH 4 (by kernel_rfl) (by kernel_rfl) rfl (by rfl) ?_
         obtain⟨v4,V4,hrun,own4,hb4⟩:=appM_run own1 (L:=D.take jn) ((HCC.out.1.keep hbz).take (by omega) (jn+1) (by omega) (by omega)) (by rw[hlt1];omega) hsz1
         intro K hK
         refine app_hand _ _ _ _ rfl _ _ rfl rfl _ _ hrun ?_
         have hsz4:Dw.heap.size≤V4.heap.size:=Nat.le_trans hsz1 hb4.size
         have hbz:=hbz.trans (hb4.mono HDS.out)
         refine hK.out _ _ trivial (fun hHeld=>?_)
         clear hK K hrun own1 hb4
         (try go_simp)
         refine callH 9 (by kernel_rfl) (by kernel_rfl) rfl (by rfl) ?_
         obtain⟨v9,V9,hrun,own9,hb9⟩:=appM_run own4 (L:=D.drop (jn+1)) (vx:=.slice (some ⟨g,off,none⟩) 0 0) (MqIn.zero (List.drop_eq_nil_of_le (by omega)) rfl) (by rw[hlt1,hlt2];omega) hsz4
         intro K hK
         refine app_hand _ _ _ _ rfl _ _ rfl rfl _ _ hrun ?_
         have hbz:=hbz.trans (hb9.mono HDS.out)
         refine hK.out _ _ trivial (fun hHeld=>?_)
         clear hK K hrun own4 hb9
         (try go_simp)
         refine callH 10 (by kernel_rfl) (by kernel_rfl) rfl (by rfl) ?_
         intro K hK
         go_simp
         refine hK.out _ _ hHeld (fun hHeld=>?_)
         clear hK K
         (try go_simp)
         refine doneH (by kernel_rfl) ?_
         rw[List.nil_append,←mqF_app,Nat.zero_add,HLE.out] at own9
         obtain⟨ad9,cap9,e9⟩:=owns_len own9
         subst e9
         have HI9:=Lib.hid (MqIn.of_row own9)
         have HB9:=Lib.hid (HCC.out.2.2.1.trans (hbz.mono HCC.out.2.2.1.size))
         have HC9:=Lib.hid (HCC.out.1.keep hbz)
         clear own9 hbz hHeld hsz1 hsz4 hbn
         obtain⟨G,hG⟩:∃ G,D.take jn ++D.drop (jn+1)=G:=⟨_,rfl⟩
         rw[hG] at HI9 HNX HLM hll ⊢
         have HRX:=Lib.hid (HRU.out V9 _ _ _ G HB9.out HI9.out HLM.out (by omega))
         obtain⟨⟨c0,c1,c2,c3,c4,c5,c6,c7,c8,c9⟩,hx⟩:=HFX.out _ HB9.out
         have y0:=hx.cell (i:=0) rfl
         have y1:=hx.cell (i:=1) rfl
         have y2:=hx.cell (i:=2) rfl
         have y3:=hx.cell (i:=3) rfl
         have y4:=hx.cell (i:=4) rfl
         have y5:=hx.cell (i:=5) rfl
         have y6:=hx.cell (i:=6) rfl
         clear hx
         clear hG
         go_wp2_with fail
         refine HRX.out.mono ?_
         rintro e6 W6 ⟨rfl,hb6⟩
         have HB6:=Lib.hid (HB9.out.trans (hb6.mono HB9.out.size))
         have HI6:=Lib.hid (HI9.out.keep hb6)
         have HC6:=Lib.hid (HC9.out.keep hb6)
         obtain⟨pb,hpb⟩:∃ b,P G=b:=⟨_,rfl⟩
         have HPG:=Lib.hid hpb
         rw[hpb]
         clear hb6 hpb HRX c0 c1 c2 c3 c4 c5 c6 c7 c8 c9 y0 y1 y2 y3 y4 y5 y6
         cases pb
         · have HN:=Lib.hid (HNX.out.2 HPG.out)
           go_wp2
           (try rw[←hd1])
           go_roundw
           case rel=>exact⟨D,bb,(jn:Int) - 1,rfl,by go_num,by omega,by omega,HDC.out,HC6.out,HCC.out.2.1,HB6.out,by rw[show((jn:Int) - 1+1).toNat=jn by omega];exact HN.out,HCC.out.2.2.2.2⟩
           case measure=>simp[intOf]
         · have HN:=Lib.hid (HNX.out.1 HPG.out)
           have HBT:Hid (true=decide (G.length < C.length)):=by have:=HCC.out.2.2.2.1;unfold Hid;symm;rw[decide_eq_true_eq];omega
           go_wp2
           (try rw[←hd1])
           go_roundw
           case rel=>exact⟨G,true,(jn:Int) - 1,rfl,by go_num,by omega,by omega,by have:=HDC.out;omega,HI6.out,HLM.out,HB6.out,by rw[show((jn:Int) - 1+1).toNat=jn by omega];exact HN.out,HBT.out⟩
           case measure=>simp[intOf]
       · have hci':¬capD - (jn+1)=0:=by omega
         have hq1: (jn:Int)≤(capD:Int):=by omega
         go_upto_region 8 with fail
         have hbz:Below wr.heap.size wr wr.drew:=(Below.refl _ _).drew
         refine startH (S:=fun _=>True) (by kernel_rfl) trivial (fun hHeld=>?_)
         generalize wr.drew=Dw at hbz hHeld ⊢
         have HDS:=Lib.hid hbz.size
         refine takesH [1,2,3,5,6,7,8] (by kernel_rfl) (fun _ _ d _ _ h=>by cases d <;> exact h) (by kernel_rfl) (by kernel_rfl) (by assumption) ?_
         repeat (first
          | (refine TakeSeq.cons (v:=?_) rfl (by rfl) ?_ ?_
             rotate_left
             · ((intro w hSw;go_simp) <;> (try with_reducible rfl))
             (try go_simp))
          | (refine TakeSeq.skip rfl (by rfl) ?_;(try go_simp)))
         refine TakeSeq.nil ?_
         refine callH 0 (by kernel_rfl) (by kernel_rfl) rfl (by rfl) ?_
         obtain⟨V1,hv1,hbn,-⟩:=box1 Dw #[] 58
         have own1:V1.ownsRow Dw.heap.size 58 3 (.slice (some ⟨Dw.heap.size,0,none⟩) 0 0) 0 []:=by rw[←hv1];exact World.ownsRow_lit Dw #[] 0 (Nat.le_refl _) (Nat.zero_le _) rfl
         intro K hK
         go_simp
         have hsz1:=hbn.size
         have hbz:=hbz.trans (hbn.mono hbz.size)
         refine hK.out _ _ trivial (fun hHeld=>?_)
         clear hK K hv1
         (try go_simp)
         refine callH 4 (by kernel_rfl) (by kernel_rfl) rfl (by rfl) ?_
         obtain⟨v4,V4,hrun,own4,hb4⟩:=appM_run own1 (L:=D.take jn) ((HCC.out.1.keep hbz).take (by omega) (capD) (by omega) (by omega)) (by rw[hlt1];omega) hsz1
         intro K hK
         refine app_hand _ _ _ _ rfl _ _ rfl rfl _ _ hrun ?_
         have hsz4:Dw.heap.size≤V4.heap.size:=Nat.le_trans hsz1 hb4.size
         have hbz:=hbz.trans (hb4.mono HDS.out)
         refine hK.out _ _ trivial (fun hHeld=>?_)
         clear hK K hrun own1 hb4
         (try go_simp)
         refine callH 9 (by kernel_rfl) (by kernel_rfl) rfl (by rfl) ?_
         obtain⟨v9,V9,hrun,own9,hb9⟩:=appM_run own4 (L:=D.drop (jn+1)) ((HCC.out.1.keep hbz).drop (capD - (jn+1)) (by omega) (by omega)) (by rw[hlt1,hlt2];omega) hsz4
         intro K hK
         refine app_hand _ _ _ _ rfl _ _ rfl rfl _ _ hrun ?_
         have hbz:=hbz.trans (hb9.mono HDS.out)
         refine hK.out _ _ trivial (fun hHeld=>?_)
         clear hK K hrun own4 hb9
         (try go_simp)
         refine callH 10 (by kernel_rfl) (by kernel_rfl) rfl (by rfl) ?_
         intro K hK
         go_simp
         refine hK.out _ _ hHeld (fun hHeld=>?_)
         clear hK K
         (try go_simp)
         refine doneH (by kernel_rfl) ?_
         rw[List.nil_append,←mqF_app,Nat.zero_add,HLE.out] at own9
         obtain⟨ad9,cap9,e9⟩:=owns_len own9
         subst e9
         have HI9:=Lib.hid (MqIn.of_row own9)
         have HB9:=Lib.hid (HCC.out.2.2.1.trans (hbz.mono HCC.out.2.2.1.size))
         have HC9:=Lib.hid (HCC.out.1.keep hbz)
         clear own9 hbz hHeld hsz1 hsz4 hbn
         obtain⟨G,hG⟩:∃ G,D.take jn ++D.drop (jn+1)=G:=⟨_,rfl⟩
         rw[hG] at HI9 HNX HLM hll ⊢
         have HRX:=Lib.hid (HRU.out V9 _ _ _ G HB9.out HI9.out HLM.out (by omega))
         obtain⟨⟨c0,c1,c2,c3,c4,c5,c6,c7,c8,c9⟩,hx⟩:=HFX.out _ HB9.out
         have y0:=hx.cell (i:=0) rfl
         have y1:=hx.cell (i:=1) rfl
         have y2:=hx.cell (i:=2) rfl
         have y3:=hx.cell (i:=3) rfl
         have y4:=hx.cell (i:=4) rfl
         have y5:=hx.cell (i:=5) rfl
         have y6:=hx.cell (i:=6) rfl
         clear hx
         clear hG
         go_wp2_with fail
         refine HRX.out.mono ?_
         rintro e6 W6 ⟨rfl,hb6⟩
         have HB6:=Lib.hid (HB9.out.trans (hb6.mono HB9.out.size))
         have HI6:=Lib.hid (HI9.out.keep hb6)
         have HC6:=Lib.hid (HC9.out.keep hb6)
         obtain⟨pb,hpb⟩:∃ b,P G=b:=⟨_,rfl⟩
         have HPG:=Lib.hid hpb
         rw[hpb]
         clear hb6 hpb HRX c0 c1 c2 c3 c4 c5 c6 c7 c8 c9 y0 y1 y2 y3 y4 y5 y6
         cases pb
         · have HN:=Lib.hid (HNX.out.2 HPG.out)
           go_wp2
           (try rw[←hd1])
           go_roundw
           case rel=>exact⟨D,bb,(jn:Int) - 1,rfl,by go_num,by omega,by omega,HDC.out,HC6.out,HCC.out.2.1,HB6.out,by rw[show((jn:Int) - 1+1).toNat=jn by omega];exact HN.out,HCC.out.2.2.2.2⟩
           case measure=>simp[intOf]
         · have HN:=Lib.hid (HNX.out.1 HPG.out)
           have HBT:Hid (true=decide (G.length < C.length)):=by have:=HCC.out.2.2.2.1;unfold Hid;symm;rw[decide_eq_true_eq];omega
           go_wp2
           (try rw[←hd1])
           go_roundw
           case rel=>exact⟨G,true,(jn:Int) - 1,rfl,by go_num,by omega,by omega,by have:=HDC.out;omega,HI6.out,HLM.out,HB6.out,by rw[show((jn:Int) - 1+1).toNat=jn by omega];exact HN.out,HBT.out⟩
           case measure=>simp[intOf]
end Go.Proofs.YtadjnfpomjopkaaGreat
namespace Go.Proofs.YtadjnfpomjopkaaGreat
open Go.RowKit
set_option maxRecDepth 100000 in
set_option maxHeartbeats 2000000 in
theorem holdsQ {w:World} {q:Mem} {M:Mdl} {r:Stm} {s:Sta} {bm bx:Nat} (x:Ins) (hbm:Blk w bm (mdC q M) 32) (hbx:Blk w bx (insC x) 37) (hm:MdQ w q M) (hs:StQ w r s) (hk:SOK s) (hg:GoodR M) :
 Calls Tryz.prog 8 #[.agg (stC r s),.pointer (some ⟨bm,0,none⟩),.pointer (some ⟨bx,0,none⟩)] w (Ret w (.bool (onS M s x))):=by
 obtain⟨W1,h1,hb1,x1⟩:=box1 w (stC r s) 44
 have HON:=Lib.hid (ronQ (hm.below hb1) (hs.below hb1) hk hg x)
 have HB1:=Lib.hid hb1
 replace hbm:=hbm.keep hb1
 replace hbx:=hbx.keep hb1
 unfold mdC at hbm HON
 unfold insC at hbx HON
 unfold stC at h1 x1 HON ⊢
 have c0:=hbm.cell (i:=0) rfl
 have c1:=hbm.cell (i:=1) rfl
 have c2:=hbm.cell (i:=2) rfl
 have c3:=hbm.cell (i:=3) rfl
 have c4:=hbm.cell (i:=4) rfl
 have c5:=hbm.cell (i:=5) rfl
 have c6:=hbm.cell (i:=6) rfl
 have c7:=hbm.cell (i:=7) rfl
 have c8:=hbm.cell (i:=8) rfl
 have c9:=hbm.cell (i:=9) rfl
 have y0:=hbx.cell (i:=0) rfl
 have y1:=hbx.cell (i:=1) rfl
 have y2:=hbx.cell (i:=2) rfl
 have y3:=hbx.cell (i:=3) rfl
 have y4:=hbx.cell (i:=4) rfl
 have y5:=hbx.cell (i:=5) rfl
 have y6:=hbx.cell (i:=6) rfl
 have d0:=x1.cell (i:=0) rfl
 have d1:=x1.cell (i:=1) rfl
 have d2:=x1.cell (i:=2) rfl
 have d3:=x1.cell (i:=3) rfl
 have d4:=x1.cell (i:=4) rfl
 clear hm hs hk hg hbm hbx x1 hb1
 go_enter Tryz.func8,Tryz.ntmps8
 go_wp2_with fail
 refine HON.out.mono ?_
 rintro e2 W2 ⟨rfl,hb2⟩
 go_wp2
 go_ret
 exact⟨rfl,HB1.out.trans (hb2.mono HB1.out.size)⟩
theorem lastS_ok {M:Mdl} {L:List Mv} (hg:GoodD M) (hr:GoodR M) (hLn:∀ v ∈ L,∀ n ∈ v.vals,N64 n):SOK (lastS M L):=by
 have h:=(allG_len M L).2
 obtain⟨s,hs⟩:∃ s,(allG M L).1[(allG M L).1.length - 1]?=some s:=⟨_,List.getElem?_eq_getElem (by omega)⟩
 unfold lastS
 rw[hs]
 exact runG_ok hg L hLn (begin_ok hr) s (List.mem_of_getElem? hs)
theorem runs_last (M:Mdl) (x:Ins) (L:List Mv):runsS M x L= (decide ((allG M L).2=0) && onS M (lastS M L) x):=rfl
set_option maxRecDepth 100000 in
set_option maxHeartbeats 4000000 in
theorem moves1Q {w:World} {q:Mem} {M:Mdl} {bm bh bp bx:Nat} {tt:TypeId} (x:Ins) (hbm:Blk w bm (mdC q M) 32) (hbx:Blk w bx (insC x) 37) (hbp:Blk w bp (mdC q M) 32) (hbh:Blk w bh #[.func (.func 8) #[] #[.pointer (some ⟨bm,0,none⟩),.pointer (some ⟨bx,0,none⟩)]] tt)
 (hm:MdQ w q M) {lad:Option Addr} {lcp:Nat} {L:List Mv} (hl:RowE moveE 3 w (.slice lad L.length lcp) L) (hLn:∀ v ∈ L,∀ n ∈ v.vals,N64 n) (hg:GoodD M) (hr:GoodR M) (hlen:L.length≤1000) :
 Calls Tryz.prog 17 #[.slice lad L.length lcp,.pointer (some ⟨bp,0,none⟩),.pointer (some ⟨bh,0,none⟩)] w (Ret w (.bool (runsS M x L))):=by
 have HLA:=Lib.hid (lastQ hm hl hg hlen)
 have HSL:=Lib.hid (lastS_ok hg hr hLn)
 have HHO:Hid (∀ V (r:Stm) (s:Sta),Below w.heap.size w V→StQ V r s→SOK s→Calls Tryz.prog 8 #[.agg (stC r s),.pointer (some ⟨bm,0,none⟩),.pointer (some ⟨bx,0,none⟩)] V (Ret V (.bool (onS M s x)))):=fun V r s hV h1 h2=>holdsQ x (hbm.keep hV) (hbx.keep hV) (hm.below hV) h1 h2 hr
 have HRU:=Lib.hid (runs_last M x L)
 obtain⟨R,hR⟩:∃ R,runsS M x L=R:=⟨_,rfl⟩
 rw[hR] at HRU ⊢
 obtain⟨z,hz⟩:∃ z,(allG M L).2=z:=⟨_,rfl⟩
 obtain⟨nn,hnn⟩:∃ n:Nat,(allG M L).1.length=n:=⟨_,rfl⟩
 obtain⟨s,hs⟩:∃ s,lastS M L=s:=⟨_,rfl⟩
 rw[hz,hnn,hs] at HLA
 rw[hz,hs] at HRU
 rw[hs] at HSL
 have HBH:=Lib.hid hbh
 unfold mdC at hbp HLA
 unfold stC at HHO
 have c0:=hbp.cell (i:=0) rfl
 have c1:=hbp.cell (i:=1) rfl
 have c2:=hbp.cell (i:=2) rfl
 have c3:=hbp.cell (i:=3) rfl
 have c4:=hbp.cell (i:=4) rfl
 have c5:=hbp.cell (i:=5) rfl
 have c6:=hbp.cell (i:=6) rfl
 have c7:=hbp.cell (i:=7) rfl
 have c8:=hbp.cell (i:=8) rfl
 have c9:=hbp.cell (i:=9) rfl
 clear hbm hbx hbp hbh hm hl hLn hg hr hlen hR hz hnn hs
 go_enter Tryz.func17,Tryz.ntmps17
 go_wp2_with fail
 refine HLA.out.mono ?_
 rintro e2 W2 ⟨⟨r,rfl,hS,-⟩,hb2⟩
 clear c0 c1 c2 c3 c4 c5 c6 c7 c8 c9 HLA
 obtain⟨W3,h3,hb3,x3⟩:=box1 W2 #[.slice none 0 0,.int .i64 0,.int .i64 0,.slice none 0 0,.slice none 0 0] 44
 have HS:=Lib.hid hS
 have HB3:=Lib.hid (hb2.trans (hb3.mono hb2.size))
 have HX3:=Lib.hid x3
 have HLE:=Lib.hid hb2.size
 have HT:=Lib.hid ((Turned.refl x3).put5 (.slice r.a0 s.vals.length r.k0) (.int .i64 s.opn) (.int .i64 s.dne) (.slice r.a3 s.did.length r.k3) (.slice r.a4 s.cnt.length r.k4))
 have HBP:=Lib.hid (below_put5 (B:=W2.heap.size) hb3 (Nat.le_refl _) (.slice r.a0 s.vals.length r.k0) (.int .i64 s.opn) (.int .i64 s.dne) (.slice r.a3 s.did.length r.k3) (.slice r.a4 s.cnt.length r.k4))
 have HBQ:=Lib.hid (hb2.trans (HBP.out.mono hb2.size))
 unfold stC
 have u0:=x3.cell (i:=0) rfl
 have t0:=x3.free 0
 have u1:=x3.cell (i:=1) rfl
 have t1:=x3.free 1
 have u2:=x3.cell (i:=2) rfl
 have t2:=x3.free 2
 have u3:=x3.cell (i:=3) rfl
 have t3:=x3.free 3
 have u4:=x3.cell (i:=4) rfl
 have t4:=x3.free 4
 clear hS hb2 hb3 x3
 go_upto_region 2 with fail
 obtain⟨V,hV⟩:∃ V,(((((W3.setCell ⟨W2.heap.size,0,none⟩ (.slice r.a0 s.vals.length r.k0)).setCell ⟨W2.heap.size,1,none⟩ (.int .i64 s.opn)).setCell ⟨W2.heap.size,2,none⟩ (.int .i64 s.dne)).setCell ⟨W2.heap.size,3,none⟩ (.slice r.a3 s.did.length r.k3)).setCell ⟨W2.heap.size,4,none⟩ (.slice r.a4 s.cnt.length r.k4))=V:=⟨_,rfl⟩
 rw[hV] at HT HBP HBQ ⊢
 have hx:=HT.out.1
 have z0:=hx.cell (i:=0) rfl
 have z1:=hx.cell (i:=1) rfl
 have z2:=hx.cell (i:=2) rfl
 have z3:=hx.cell (i:=3) rfl
 have z4:=hx.cell (i:=4) rfl
 have hq:=HBH.out.keep HBQ.out
 have v0:=hq.cell (i:=0) rfl
 clear u0 u1 u2 u3 u4 t0 t1 t2 t3 t4 hV hx hq
 by_cases hz:z=0
 · subst hz
   have HE:Hid (R=onS M s x):=by unfold Hid;rw[HRU.out];simp
   have hnil:∀ W:World,Sem.run Tryz.prog (binOp .eql 46 (.func (.func 8) #[] #[.pointer (some ⟨bm,0,none⟩),.pointer (some ⟨bx,0,none⟩)]) .nilFunc) W=.ok (.bool false) W:=fun W=>by rfl
   have HHX:=Lib.hid (HHO.out V r s HBQ.out (HS.out.below HBP.out) HSL.out)
   go_wp2_with fail
   refine HHX.out.mono ?_
   rintro e5 W5 ⟨rfl,hb5⟩
   go_wp2
   go_ret
   exact⟨ret_bool HE.out.symm,HBQ.out.trans (hb5.mono HBQ.out.size)⟩
 · have HE:Hid (R=false):=by unfold Hid;rw[HRU.out,decide_eq_false hz];rfl
   have bz: (z == 0)=false:=by simp[hz]
   clear hz
   go_wp2
   go_ret
   exact⟨ret_bool HE.out.symm,HBQ.out⟩
set_option maxRecDepth 100000 in
set_option maxHeartbeats 4000000 in
theorem smovesQ {w:World} {q:Mem} {M:Mdl} {bm bx:Nat} (x:Ins) (hbm:Blk w bm (mdC q M) 32) (hbx:Blk w bx (insC x) 37)
 (hm:MdQ w q M) {lad:Option Addr} {lcp:Nat} {Lq:List Mq} (hl:MqIn w (.slice lad Lq.length lcp) Lq) (hq:∀ y ∈ Lq,MqV w y) (hLn:∀ y ∈ Lq,∀ n ∈ y.1.vals,N64 n) (hg:GoodD M) (hr:GoodR M) (hlen:Lq.length≤1000) :
 Calls Tryz.prog 7 #[.agg (mdC q M),.slice lad Lq.length lcp,.func (.func 8) #[] #[.pointer (some ⟨bm,0,none⟩),.pointer (some ⟨bx,0,none⟩)]] w fun e w'=>∃ v',e=.returned v'∧MqIn w' v' (shrG (fun C=>runsS M x (C.map (·.1))) Lq)∧Below w.heap.size w w':=by
 obtain⟨W1,h1,HB1,HM,HF⟩:=boxM hm
 obtain⟨W2,h2,hb2,x2⟩:=box1 W1 #[.func (.func 8) #[] #[.pointer (some ⟨bm,0,none⟩),.pointer (some ⟨bx,0,none⟩)]] 46
 have HB2:=Lib.hid (HB1.out.trans (hb2.mono HB1.out.size))
 have hbp:Blk W2 w.heap.size (mdC q M) 32:=by
  have:Blk W1 w.heap.size (mdC q M) 32:=by rw[←h1];exact Blk.new _ _ _
  exact this.keep hb2
 have HSH:=Lib.hid (shrunkM_any (w:=W2) (hl.keep HB2.out) (by omega) (p:=w.heap.size) (q:=W1.heap.size) (fun C=>runsS M x (C.map (·.1))) (fun W u C base hW hown hcl hmem=>by
  have hWw:=HB2.out.trans (hW.mono HB2.out.size)
  have hrw:=rowM_of (MqIn.of_row hown) (fun y hy=>(hq y (hmem y hy)).keep hWw)
  obtain⟨ad',cp',e⟩:=hrw.len
  rw[e] at hrw ⊢
  exact moves1Q x (hbm.keep hWw) (hbx.keep hWw) (hbp.keep hW) (x2.keep hW) (hm.below hWw) hrw (fun v hv=>by
   obtain⟨y,hy,rfl⟩:=List.mem_map.1 hv
   exact hLn y (hmem y hy)) hg hr (by rw[List.length_map];omega)))
 obtain⟨T,hT⟩:∃ T,shrG (fun C=>runsS M x (C.map (·.1))) Lq=T:=⟨_,rfl⟩
 rw[hT] at HSH ⊢
 unfold mdC at h1 ⊢
 clear hm hl hq hLn hg hr hlen hbm hbx hbp x2 hb2 HM HF hT
 go_enter Tryz.func7,Tryz.ntmps7
 go_wp2_with fail
 refine HSH.out.mono ?_
 rintro e3 W3 ⟨v3,rfl,hr3,hb3⟩
 have HR3:=Lib.hid hr3
 have HB3:=Lib.hid (HB2.out.trans (hb3.mono HB2.out.size))
 clear hr3 hb3
 go_wp2
 go_ret
 exact⟨_,rfl,HR3.out,HB3.out⟩
end Go.Proofs.YtadjnfpomjopkaaGreat
