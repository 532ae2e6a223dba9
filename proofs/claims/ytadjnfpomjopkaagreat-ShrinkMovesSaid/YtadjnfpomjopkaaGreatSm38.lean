import Derived.Test.YtadjnfpomjopkaaGreatSm37
import Derived.Test.YtadjnfpomjopkaaGreatSm13
import Derived.Maps.AppendAt
import Derived.OwnWalkIn
import Derived.Test.YtadjnfpomjopkaaGreatSm36
import Derived.Test.YtadjnfpomjopkaaGreatSm22
namespace Go.Proofs.YtadjnfpomjopkaaGreat
open Go.RowKit
set_option maxRecDepth 100000 in
theorem statesQ (w:World) (q:Mem) (M:Mdl) (lad:Option Addr) (n lcp:Nat) :
 Calls Tryz.prog 40 #[.agg (mdC q M),.slice lad n lcp] w fun e w'=>e=.returned (.func (.func 55) #[] #[.pointer (some ⟨w.heap.size,0,none⟩),.pointer (some ⟨w.heap.size+1,0,none⟩)])∧w'= (w.alloc (.cells (mdC q M) 32)).alloc (.cells #[.slice lad n lcp] 33):=by
 unfold mdC
 go_enter Tryz.func40,Tryz.ntmps40
 go_wp2
 go_ret
 exact⟨by simp,rfl⟩
def RnG (M:Mdl) (L:List Mv) (bo n0:Nat) (pre:List (Stm × Sta × Int)) (x:Stm × Sta × Int) (D:Nat→Prop) (W:World):Prop:=StW (fun k=>D k∧n0+2≤k) bo W x.1 x.2.1∧(pre ++ [x]).map Prod.snd <+:seqS M L
theorem RnG.har {M:Mdl} {L:List Mv} {bo n0:Nat}:∀ pre x D A A',RnG M L bo n0 pre x D A→HarE D bo A A'→RnG M L bo n0 pre x D A':=fun _ _ _ _ _ h k=>⟨h.1.har (k.mono fun _ h=>h.1),h.2⟩
def RwN (ad:Option Addr) (l:List Int) (r:Nat):Prop:=l≠[]∧∃ a:Addr,ad=some a∧a.block=r
def RnN (x:Stm × Sta × Int) (r:Nat):Prop:=RwN x.1.a0 x.2.1.vals r∨RwN x.1.a3 x.2.1.did r∨RwN x.1.a4 x.2.1.cnt r
theorem AwR.rw {D:Nat→Prop} {bo:Nat} {W:World} {ad:Option Addr} {l:List Int} (h:AwR D bo W ad l) {r:Nat} (hr:RwN ad l r):D r:=by
 obtain⟨h1,a,e,rfl⟩:=hr
 rcases h with h| ⟨a',e',hD,_⟩
 · exact absurd h h1
 · rw[e] at e';cases e';exact hD
theorem StW.rn {D:Nat→Prop} {bo:Nat} {W:World} {r:Stm} {s:Sta} (z:Int) (h:StW D bo W r s):∀ k,RnN (r,s,z) k→D k:=fun k hk=>by
 rcases hk with hk|hk|hk
 · exact h.2.1.rw hk
 · exact h.2.2.1.rw hk
 · exact h.2.2.2.rw hk
theorem RnG.rn {M:Mdl} {L:List Mv} {bo n0:Nat}:∀ pre x D A,RnG M L bo n0 pre x D A→∀ r,RnN x r→D r:=fun _ x _ _ h r hr=>(h.1.rn x.2.2 r hr).1
def RnI (w:World) (bo:Nat) (W:World):Prop:=HarE (fun k=>k < w.heap.size∧k≠bo) bo w W
structure RnH (M:Mdl) (L:List Mv) (w:World) (bo bS:Nat) (J:List (Stm × Sta × Int)→World→Prop) (k:Nat) (W:World) (pre:List (Stm × Sta × Int)) (r:Stm) (s:Sta):Prop where
 j:J pre W
 i:RnI w bo W
 st:StW (fun k=>w.heap.size+2≤k∧k≠bS) bo W r s
 box:Blk W bS (stC r s) 44
 free:Free bo W bS
 seq:seqS M L=pre.map Prod.snd ++seqF M s (L.drop k)
 bd:Bd s
 no:∀ x ∈ pre,¬RnN x bS
set_option maxRecDepth 100000 in
set_option maxHeartbeats 4000000 in
theorem states_seq (m bM bL bo B0:Nat) {q:Mem} {M:Mdl} {lad:Option Addr} {lcp:Nat} {L:List Mv} (w:World) (hbM:Blk w bM (mdC q M) 32) (hbL:Blk w bL #[.slice lad L.length lcp] 33) (hnM:bM≠bo) (hnL:bL≠bo)
 (hm:∀ V,Below B0 w V→MdQ V q M) (hl:∀ V,Below B0 w V→RowE moveE 3 V (.slice lad L.length lcp) L) (hB0:B0≤bo) (hbo:bo < w.heap.size) (hg:GoodD M) (hfr:∀ k,k≠bo→Free bo w k) (hlen:L.length≤9223372036854775807) :
 SeqE Fence.wide m Tryz.prog 55 #[.pointer (some ⟨bM,0,none⟩),.pointer (some ⟨bL,0,none⟩)] (fun x:Stm × Sta × Int=>#[.agg (stC x.1 x.2.1),.int .i64 x.2.2]) bo RnN (RnG M L bo w.heap.size) (fun xs=>xs.map Prod.snd=seqS M L) w:=by
 intro l J Jx W hB hsz hJ hJf hF hY h0
 have HY:=Lib.hid hY
 have HJ:=Lib.hid hJ
 have HJF:=Lib.hid hJf
 have HSZ:=Lib.hid hsz
 have HBO:=Lib.hid hbo
 have HLO:Hid (∀ V,RnI w bo V→Below B0 w V):=fun V hV=>HarE.below hV (by omega) (fun k hk=>⟨by omega,by omega⟩) (fun k hk=>hfr k (by omega))
 have HM:Hid (∀ V,RnI w bo V→MdQ V q M):=fun V hV=>hm V (HLO.out V hV)
 have HL:Hid (∀ V,RnI w bo V→RowE moveE 3 V (.slice lad L.length lcp) L):=fun V hV=>hl V (HLO.out V hV)
 have HF:Hid (∀ V,RnI w bo V→MdB V bM q M∧V.cell? ⟨bL,0,none⟩ = some (.slice lad L.length lcp)):=by
  intro V hV
  have e1:Blk V bM (mdC q M) 32:=((hV.1.same bM ⟨hbM.lt,hnM⟩ hbM.lt (hfr _ hnM)).1).trans hbM
  have e2:Blk V bL #[.slice lad L.length lcp] 33:=((hV.1.same bL ⟨hbL.lt,hnL⟩ hbL.lt (hfr _ hnL)).1).trans hbL
  exact⟨.of e1,e2.cell rfl⟩
 have HIB:Hid (∀ A V,RnI w bo A→Below A.heap.size A V→RnI w bo V):=fun A V hA hV=>hA.trans (HarE.of_below hV (by have:=hA.1.size;omega))
 have HI0:Hid (RnI w bo W):=HarE.of_below hB hbo
 have HBE:Hid (∀ V,RnI w bo V→Calls Tryz.prog 56 #[.agg (mdC q M)] V fun e w'=>(∃ r,e=.returned (.agg (stC r (beginS M)))∧StQ w' r (beginS M)∧StA V.heap.size r (beginS M))∧Below V.heap.size V w'):=fun V hV=>beginQ (HM.out V hV) hg.good
 have HDO:Hid (∀ V r s v ad cp,RnI w bo V→StQ V r s→RowE intE 1 V (.slice ad v.vals.length cp) v.vals→Bd s→Calls Tryz.prog 57 #[.agg (mdC q M),.agg (stC r s),.agg #[.int .i64 v.event,.int .i64 v.user,.slice ad v.vals.length cp]] V (DoP V M r s v)):=fun V r s v ad cp hV hS hR hb=>doQ (HM.out V hV) hS hR hg hb
 have H0:=Lib.hid h0
 have HIY:Hid (∀ A V,RnI w bo A→HarE (DomE bo w.heap.size) bo A V→RnI w bo V):=fun A V hA hV=>hA.trans (hV.mono (fun k hk=>.inl hk))
 obtain⟨s0,hs0⟩:∃ s,beginS M=s:=⟨_,rfl⟩
 have HSQ0:Hid (seqS M L= ([]:List (Sta × Int)) ++ (s0,0) :: seqF M s0 L):=by unfold Hid seqS;rw[hs0];rfl
 have HBD0:Hid (Bd s0):=by unfold Hid;rw[←hs0];exact begin_bd M
 rw[hs0] at HBE
 unfold MdB at HF
 unfold mdC at HBE HDO
 clear hs0 hY hJ hJf hsz hbo hm hl hbM hbL hB h0 hF hfr hg
 refine callsIn_of_wp Tryz.func55 rfl trivial ?_ rfl
 simp only[Tryz.ntmps55,List.size_toArray,List.length_cons,List.length_nil,Nat.reduceAdd,Nat.reduceSub,Array.replicate_succ,Array.replicate_zero,List.push_toArray,List.append_toArray,List.nil_append,List.cons_append]
 obtain⟨⟨c0,c1,c2,c3,c4,c5,c6,c7,c8,c9⟩,cl⟩:=HF.out W HI0.out
 gi_wp2
 refine⟨trivial,fun h=>by simp[Fence.wide] at h,(callsIn_wide.2 (HBE.out _ HI0.out)).mono ?_⟩
 rintro e1 W1 ⟨⟨r,rfl,hS1,hA1⟩,hb1⟩
 obtain⟨W2,h2,hb2,x2⟩:=box1 W1 (stC r s0) 44
 have hbw:bo < W.heap.size:=by have:=HBO.out;have:=HSZ.out;omega
 have hbw1:bo < W1.heap.size:=Nat.lt_of_lt_of_le hbw hb1.size
 have hst1:StW (fun k=>w.heap.size+2≤k) bo W1 r s0:=StW.made hS1 hA1 hb1 hbw (HJF.out _ _ H0.out).2.2 (fun k hk=>by have:=HSZ.out;omega)
 have HST1:Hid (StW (fun k=>w.heap.size+2≤k∧k≠W1.heap.size) bo W2 r s0):=(hst1.mono (D':=fun k=>w.heap.size+2≤k∧k≠W1.heap.size) (fun k hk hd=>⟨hd,by omega⟩)).below hb2 hbw1
 have hj1:=abides_below HJ.out H0.out hb1
 have HJ2:=Lib.hid (abides_below HJ.out hj1 hb2)
 have HI2:=Lib.hid (HIB.out _ _ (HIB.out _ _ HI0.out hb1) hb2)
 have HF2:Hid (Free bo W2 W1.heap.size):=((HJF.out _ _ hj1).2.2 _ (Nat.le_refl _)).below hb2 hbw1
 have HX2:=Lib.hid x2
 have HW1:Hid (w.heap.size+2≤W1.heap.size):=by have:=HSZ.out;have:=hb1.size;unfold Hid;omega
 obtain⟨fn,tmps,assign,body,hyy,hR⟩:=HY.out [] (r,s0,0) W2 HJ2.out ⟨HST1.out.mono (fun k _ hk=>⟨.inr hk.1,hk.1⟩),by rw[HSQ0.out];exact⟨seqF M s0 L,rfl⟩⟩
 have HR:=Lib.hid hR
 unfold stC at h2 x2 hyy ⊢
 have d0:=x2.cell (i:=0) rfl
 have d1:=x2.cell (i:=1) rfl
 have d2:=x2.cell (i:=2) rfl
 have d3:=x2.cell (i:=3) rfl
 have d4:=x2.cell (i:=4) rfl
 clear hR hst1 hj1 hS1 hA1 hb1 hb2 x2 HBE c0 c1 c2 c3 c4 c5 c6 c7 c8 c9 cl hbw hbw1
 gi_wp2
 refine⟨fun h=>by simp[Fence.wide] at h,HR.out.mono ?_⟩
 clear HR hyy fn tmps assign body d0 d1 d2 d3 d4
 rintro e3 W3 (⟨rfl,hj3,hk3⟩ | ⟨rfl,hx3⟩)
 case inr=>
  gi_wp2
  refine bodyPost_ret (results_none rfl _ _ _) rfl ?_
  exact⟨⟨_,rfl⟩,.inr ⟨_,hx3⟩⟩
 have HK3:=Lib.hid hk3
 have hi3:=HIY.out _ _ HI2.out hk3
 have hbx:=(hk3.1.same W1.heap.size (.inr HW1.out) HX2.out.lt HF2.out)
 have HH0:Hid (RnH M L w bo W1.heap.size J 0 W3 [(r,s0,0)] r s0):=⟨hj3,hi3,HST1.out.har (hk3.mono (fun k hk=>.inr hk.1)),hbx.1.trans HX2.out,hbx.2,by rw[HSQ0.out];simp,HBD0.out,fun y hy=>by rw[List.mem_singleton.1 hy];exact fun hn=>(HST1.out.rn 0 _ hn).2 rfl⟩
 obtain⟨-,cl⟩:=HF.out W3 hi3
 obtain⟨bS,hbS⟩:∃ b,W1.heap.size=b:=⟨_,rfl⟩
 rw[hbS] at HH0 HW1 ⊢
 clear hj3 hk3 hi3 hbx HK3 HX2 HF2 HJ2 HI2 HST1 HSQ0 HBD0 hbS h2 H0
 gi_wp2
 gi_loopw [6,7,8,17] (fun _ _ _ i wr=>∃ k r s pre,i=.int .i64 ((k:Nat):Int)∧k≤L.length∧Hid (RnH M L w bo bS J k wr pre r s)) (fun _ _ _ i _=>L.length - (intOf i).toNat)
 case atStart=>exact⟨0,r,s0,_,rfl,Nat.zero_le _,HH0.out⟩
 case round=>
  clear cl HH0
  obtain⟨k,r,s,pre,rfl,hk,HH⟩:=hrel
  obtain⟨⟨c0,c1,c2,c3,c4,c5,c6,c7,c8,c9⟩,cl⟩:=HF.out wr HH.out.i
  rcases Nat.lt_or_ge k L.length with hlt|hge
  · have hkz:=ltI hlt
    obtain⟨x,b,off,ai,ki,hx,ha,hrow,⟨a0,a1,a2⟩,W4,h4,hb4,x4⟩:=moveBox (HL.out wr HH.out.i) hlt
    have hbwr:bo < wr.heap.size:=by have:=HBO.out;have:=HH.out.i.1.size;omega
    have HI4:=Lib.hid (HIB.out _ _ HH.out.i hb4)
    have hx4:=HH.out.box.keep hb4
    have HS4:=Lib.hid (HH.out.st.below hb4 hbwr)
    have HJ4:=Lib.hid (abides_below HJ.out HH.out.j hb4)
    have hf4:=HH.out.free.below hb4 hbwr
    have HDX:=Lib.hid (HDO.out W4 r s x ai ki HI4.out HS4.out.1 (hrow.below intE_keep hb4) HH.out.bd)
    have HSE:=Lib.hid (HH.out.seq.trans (congrArg (fun z=>pre.map Prod.snd ++z) (seqF_at hx)))
    have HBX:=Lib.hid (do_bd (M:=M) x HH.out.bd)
    obtain⟨⟨b0,b1,b2,b3,b4,b5,b6,b7,b8,b9⟩,-⟩:=HF.out W4 HI4.out
    have HX4:=Lib.hid (And.intro hx4 hf4)
    unfold stC at hx4 HDX
    have y0:=x4.cell (i:=0) rfl
    have y1:=x4.cell (i:=1) rfl
    have y2:=x4.cell (i:=2) rfl
    have d0:=hx4.cell (i:=0) rfl
    have d1:=hx4.cell (i:=1) rfl
    have d2:=hx4.cell (i:=2) rfl
    have d3:=hx4.cell (i:=3) rfl
    have d4:=hx4.cell (i:=4) rfl
    have hs4:=hb4.size
    have HLW:Hid (bo < W4.heap.size):=by unfold Hid;omega
    rw[ha] at cl
    clear hx4 hf4 x4 hrow hb4 hx hs4 hbwr
    gi_wp2
    refine⟨trivial,fun h=>by simp[Fence.wide] at h,(callsIn_wide.2 HDX.out).mono ?_⟩
    unfold DoP
    rintro e5 W5 ⟨⟨r5,rfl,hS5,hA5⟩,hb5⟩
    obtain⟨s5,hs5⟩:∃ t,(doS M s x).1=t:=⟨_,rfl⟩
    obtain⟨z5,hz5⟩:∃ t,(doS M s x).2=t:=⟨_,rfl⟩
    have hd5:doS M s x= (s5,z5):=by rw[←hs5,←hz5]
    rw[hs5] at hS5 hA5 HBX
    rw[hs5,hz5]
    obtain⟨W6,h6,hb6,x6⟩:=box1 W5 (stC r5 s5) 44
    have hb46:=hb5.trans (hb6.mono hb5.size)
    have hst5:StW (fun k=>w.heap.size+2≤k∧k≠bS) bo W5 r5 s5:=by
     rcases hA5 with⟨rfl,rfl⟩ | hA5
     · exact HS4.out.below hb5 HLW.out
     · refine StW.made hS5 hA5 hb5 HLW.out (HJF.out _ _ HJ4.out).2.2 (fun k hk=>⟨?_,?_⟩)
       · have:=HW1.out;have:=HX4.out.1.lt;omega
       · have:=HX4.out.1.lt;omega
    have HS6:=Lib.hid (hst5.below hb6 (Nat.lt_of_lt_of_le HLW.out hb5.size))
    have HJ6:=Lib.hid (abides_below HJ.out HJ4.out hb46)
    have HI6:=Lib.hid (HIB.out _ _ HI4.out hb46)
    have HX6:=Lib.hid (And.intro (HX4.out.1.keep hb46) (HX4.out.2.below hb46 HLW.out))
    have HP6:=Lib.hid (And.intro x6 ((HJF.out _ _ (abides_below HJ.out HJ4.out hb5)).2.2 W5.heap.size (Nat.le_refl _) |>.below hb6 (Nat.lt_of_lt_of_le HLW.out hb5.size)))
    have HL5:Hid (w.heap.size+2≤W5.heap.size):=by have:=HW1.out;have:=HX4.out.1.lt;have:=hb5.size;unfold Hid;omega
    rw[hd5] at HSE
    obtain⟨fn,tmps,assign,body,hyy,hR⟩:=HY.out pre (r5,s5,z5) W6 HJ6.out ⟨HS6.out.mono (fun k _ hk=>⟨.inr hk.1,hk.1⟩),by rw[HSE.out,List.map_append,List.prefix_append_right_inj];exact⟨_,rfl⟩⟩
    have HR:=Lib.hid hR
    unfold stC at h6 x6 hyy ⊢
    have z0:=x6.cell (i:=0) rfl
    have z1:=x6.cell (i:=1) rfl
    have z2:=x6.cell (i:=2) rfl
    have z3:=x6.cell (i:=3) rfl
    have z4:=x6.cell (i:=4) rfl
    clear hR hst5 hS5 hA5 hb5 hb6 hb46 x6 HDX hs5 hz5 hd5 y0 y1 y2 d0 d1 d2 d3 d4 b0 b1 b2 b3 b4 b5 b6 b7 b8 b9 c0 c1 c2 c3 c4 c5 c6 c7 c8 c9 cl a0 a1 a2 HS4 HJ4 HI4 HX4 HLW
    gi_wp2
    refine⟨fun h=>by simp[Fence.wide] at h,HR.out.mono ?_⟩
    clear HR hyy fn tmps assign body z0 z1 z2 z3 z4
    rintro e7 W7 (⟨rfl,hj7,hk7⟩ | ⟨rfl,hx7⟩)
    case inr=>
     gi_wp2
     refine bodyPost_ret (results_none rfl _ _ _) rfl ?_
     exact⟨⟨_,rfl⟩,.inr ⟨_,hx7⟩⟩
    by_cases hz:z5=0
    · subst hz
      have hi7:=HIY.out _ _ HI6.out hk7
      have hbx:=hk7.1.same bS (.inr HW1.out) HX6.out.1.lt HX6.out.2
      have hpx:=hk7.1.same W5.heap.size (.inr HL5.out) HP6.out.1.lt HP6.out.2
      have hst7:=HS6.out.har (hk7.mono (fun k hk=>.inr hk.1))
      have hbox:Blk W7 bS (stC r s) 44:=hbx.1.trans HX6.out.1
      have hpox:Blk W7 W5.heap.size (stC r5 s5) 44:=hpx.1.trans HP6.out.1
      have hne:bS≠bo:=by have:=HW1.out;have:=HBO.out;omega
      have hno:∀ y ∈ pre ++ [(r5,s5,0)],¬RnN y bS:=fun y hy=>by
       rcases List.mem_append.1 hy with h|h
       · exact HH.out.no y h
       · rw[List.mem_singleton.1 h];exact fun hn=>(HS6.out.rn 0 _ hn).2 rfl
      have HN:Hid (∀ a0 a1 a2 a3 a4,#[a0,a1,a2,a3,a4]=stC r5 s5→RnH M L w bo bS J (k+1) (putW W7 bS a0 a1 a2 a3 a4) (pre ++ [(r5,s5,0)]) r5 s5):=by
       intro a0 a1 a2 a3 a4 ea
       refine⟨abides_putW HJ.out hj7 (by have:=HW1.out;have:=HSZ.out;omega) hne hbx.2 hno _ _ _ _ _,hi7.trans (HarE.putW hne (fun h=>by have:=HW1.out;omega) _ _ _ _ _),hst7.har (HarE.putW hne (fun h=>h.2 rfl) _ _ _ _ _),?_,hbx.2.putW hne _ _ _ _ _,?_,HBX.out,hno⟩
       · rw[←ea];exact hbox.put5 _ _ _ _ _
       · rw[HSE.out,if_neg (by simp)];simp
      unfold stC at hpox hbox
      have z0:=hpox.cell (i:=0) rfl
      have z1:=hpox.cell (i:=1) rfl
      have z2:=hpox.cell (i:=2) rfl
      have z3:=hpox.cell (i:=3) rfl
      have z4:=hpox.cell (i:=4) rfl
      have u0:=hbox.cell (i:=0) rfl
      have t0:=hbox.free 0
      have u1:=hbox.cell (i:=1) rfl
      have t1:=hbox.free 1
      have u2:=hbox.cell (i:=2) rfl
      have t2:=hbox.free 2
      have u3:=hbox.cell (i:=3) rfl
      have t3:=hbox.free 3
      have u4:=hbox.cell (i:=4) rfl
      have t4:=hbox.free 4
      clear hj7 hk7 hi7 hbx hpx hst7 hbox hpox hne hno
      gi_wp2
      (try rw[←ha])
      go_roundw
      case rel=>exact⟨k+1,r5,s5,_,by go_num,hlt,HN.out _ _ _ _ _ rfl⟩
      case measure=>simp[intOf];omega
    · have hb: (z5 !=0)=true:=by simp[hz]
      have HE:Hid ((pre ++ [(r5,s5,z5)]).map Prod.snd=seqS M L):=by unfold Hid;rw[HSE.out,if_pos (by exact hz)];simp
      clear hz
      gi_wp2
      refine bodyPost_ret (results_none rfl _ _ _) rfl ?_
      exact⟨⟨_,rfl⟩,.inl ⟨_,HE.out,hj7⟩⟩
  · have hkn:k=L.length:=by omega
    subst hkn
    have hge':=nltI (Nat.not_lt.2 hge)
    have HE:Hid (pre.map Prod.snd=seqS M L):=by unfold Hid;rw[HH.out.seq,List.drop_length,seqF];simp
    gi_wp2
    go_end0
    exact⟨⟨_,rfl⟩,.inl ⟨_,HE.out,HH.out.j⟩⟩
end Go.Proofs.YtadjnfpomjopkaaGreat
namespace Go.Proofs.YtadjnfpomjopkaaGreat
open Go.RowKit
def stateE (B:Nat):ElE Sta:=fun w s cs=>∃ r:Stm,cs= (stC r s).toList∧StQ w r s∧StA B r s
theorem stateE_keep (B:Nat):KeepE (stateE B):=fun _ _ _ _ h hb=>by
 obtain⟨r,e,hs,hA⟩:=h
 exact⟨r,e,hs.below hb,hA⟩
theorem AwR.lies {D:Nat→Prop} {bo B:Nat} {W:World} {ad:Option Addr} {l:List Int} (h:AwR D bo W ad l) (hB:∀ k,D k→B≤k):l= []∨∃ a:Addr,ad=some a∧B≤a.block:=by
 rcases h with h| ⟨a,e,hD,_⟩
 · exact .inl h
 · exact .inr ⟨a,e,hB _ hD⟩
theorem StW.lies {D:Nat→Prop} {bo B:Nat} {W:World} {r:Stm} {s:Sta} (h:StW D bo W r s) (hB:∀ k,D k→B≤k):StA B r s:=⟨h.2.1.lies hB,h.2.2.1.lies hB,h.2.2.2.lies hB⟩
theorem info_state: (Tryz.prog.info? 44).map (fun i=>(i.zero,i.size,i.bytes))=some (some (.agg #[.slice none 0 0,.int .i64 0,.int .i64 0,.slice none 0 0,.slice none 0 0]),5,88):=by kernel_rfl
def stFlat (l:List (Stm × Sta × Int)):List Value:=l.flatMap fun x=>(stC x.1 x.2.1).toList
theorem stFlat_snoc (l:List (Stm × Sta × Int)) (x:Stm × Sta × Int):stFlat (l ++ [x])=stFlat l ++ (stC x.1 x.2.1).toList:=by simp[stFlat]
theorem stFlat_get:∀ (l:List (Stm × Sta × Int)) {i:Nat} {x:Stm × Sta × Int} {j:Nat},l[i]?=some x→j < 5→(stFlat l)[i * 5+j]?= (stC x.1 x.2.1).toList[j]?
 | [],_,_,_,h,_=>by simp at h
 | y :: l,0,x,j,h,hj=>by
   simp only[List.getElem?_cons_zero,Option.some.injEq] at h
   subst h
   rw[show stFlat (y :: l)= (stC y.1 y.2.1).toList ++stFlat l from rfl,Nat.zero_mul,Nat.zero_add,List.getElem?_append_left (by simpa [stC] using hj)]
 | y :: l,i+1,x,j,h,hj=>by
   simp only[List.getElem?_cons_succ] at h
   rw[show stFlat (y :: l)= (stC y.1 y.2.1).toList ++stFlat l from rfl,List.getElem?_append_right (by simp[stC];omega)]
   have e: (i+1) * 5+j - (stC y.1 y.2.1).toList.length=i * 5+j:=by simp[stC];omega
   rw[e]
   exact stFlat_get l h hj
theorem rowS_of {B:Nat} {w:World} {base:Nat} {t:TypeId} {ad:Option Addr} {cap:Nat} {l:List (Stm × Sta × Int)} (h:w.ownsRow base t 5 (.slice ad l.length cap) l.length (stFlat l)) (hs:∀ x ∈ l,StQ w x.1 x.2.1∧StA B x.1 x.2.1):RowE (stateE B) 5 w (.slice ad l.length cap) (l.map fun x=>x.2.1):=by
 have hc:=h
 rcases h.2 with⟨hv,h0⟩ | ⟨g,cap',cur,hv,hb,hg,hn,hm,hcs,ht⟩
 · simp only[Value.slice.injEq] at hv
   refine⟨ad,cap,by rw[List.length_map],⟨fun _=>hv.2.2,by rw[List.length_map,h0];exact Nat.zero_le _,by rw[hv.2.2];exact Nat.zero_le _⟩,.inl (by rw[List.length_eq_zero_iff.1 h0];rfl)⟩
 · simp only[Value.slice.injEq] at hv
   obtain⟨rfl,-,rfl⟩:=hv
   refine⟨_,cap,by rw[List.length_map],⟨fun e=>by simp at e,by rw[List.length_map];exact hn,hm⟩,.inr ⟨g,0,rfl,(Array.getElem?_eq_some_iff.1 hg).1,fun i s hi=>?_⟩⟩
   rw[List.getElem?_map] at hi
   cases hx:l[i]? with
   | none=>rw[hx] at hi;simp at hi
   | some x=>
     rw[hx] at hi
     simp only[Option.map_some,Option.some.injEq] at hi
     subst hi
     refine⟨(stC x.1 x.2.1).toList,rfl,⟨x.1,rfl,hs x (List.mem_of_getElem? hx)⟩,fun j u hj=>?_⟩
     have hj5:j < 5:=by have:=(List.getElem?_eq_some_iff.1 hj).1;simpa [stC] using this
     have hil:=(List.getElem?_eq_some_iff.1 hx).1
     have e:=hc.cellAt (0+i * 5+j) (by omega)
     rw[e,Nat.zero_add,stFlat_get l hx hj5];exact hj
theorem AwR.not {D:Nat→Prop} {bo:Nat} {W:World} {ad:Option Addr} {l:List Int} {row:Option Nat} (h:AwR D bo W ad l) (hn:∀ k,row=some k→¬RwN ad l k):AwR (fun k=>D k∧row≠some k) bo W ad l:=by
 rcases h with h| ⟨a,e,hD,hs,hf⟩
 · exact .inl h
 by_cases hl:l= []
 · exact .inl hl
 · exact .inr ⟨a,e,⟨hD,fun q=>hn _ q ⟨hl,a,e,rfl⟩⟩,hs,hf⟩
theorem StW.grown {D:Nat→Prop} {bo:Nat} {A A':World} {row:Option Nat} {r:Stm} {s:Sta} {z:Int} (h:StW D bo A r s) (hg:A.grownBy A' row) (hbo:bo < A.heap.size) (h1:row≠some bo) (hn:∀ k,row=some k→¬RnN (r,s,z) k):StW D bo A' r s:=by
 have h2:StW (fun k=>D k∧row≠some k) bo A r s:=⟨h.1,h.2.1.not (fun k e q=>hn k e (.inl q)),h.2.2.1.not (fun k e q=>hn k e (.inr (.inl q))),h.2.2.2.not (fun k e q=>hn k e (.inr (.inr q)))⟩
 exact(h2.har (HarE.of_grown hg hbo h1 (fun r e=>.inl (fun hd=>hd.2 e)))).mono (fun k _ hk=>hk.1)
structure RnF (w:World) (n6 bo b4 b5:Nat) (fin:Bool) (z:Int) (l:List (Stm × Sta × Int)) (W:World):Prop where
 low:Below w.heap.size w W
 size:n6≤W.heap.size
 v:∃ ad cap,Blk W bo #[.slice ad l.length cap] 75∧W.ownsRow n6 44 5 (.slice ad l.length cap) l.length (stFlat l)∧Blk W b4 #[if fin=true then .slice ad l.length cap else .slice none 0 0] 75
 r5:Blk W b5 #[.int .i64 z] 68
 st:∀ x ∈ l,StW (fun k=>n6+2≤k) bo W x.1 x.2.1
theorem RnF.abides {w:World} {n6 bo b4 b5:Nat} {fin:Bool} {z:Int} {l:List (Stm × Sta × Int)} {A A':World} {row:Option Nat} (h:RnF w n6 bo b4 b5 fin z l A) (hw:w.heap.size≤n6) (hbo:bo < n6) (h4:b4 < n6) (h5:b5 < n6) (hg:A.grownBy A' row) (hr:∀ r,row=some r→n6≤r∧Free bo A r∧∀ x ∈ l,¬RnN x r):RnF w n6 bo b4 b5 fin z l A':=by
 have hne:∀ k,k < n6→row≠some k:=fun k hk e=>by have:=(hr k e).1;omega
 obtain⟨ad,cap,v1,v2,v3⟩:=h.v
 refine⟨h.low.grown hg h.low.size (fun k e=>by have:=(hr k e).1;omega),Nat.le_trans h.size hg.size,⟨ad,cap,v1.grown hg (hne _ hbo),v2.kept hg ?_,v3.grown hg (hne _ h4)⟩,h.r5.grown hg (hne _ h5),fun x hx=>?_⟩
 · cases hrow: (Value.slice ad l.length cap).ownBlock with
   | none=>exact .inl rfl
   | some k=>exact .inr fun e=>(hr k e.symm).2.1 _ (v1.cell rfl) hrow
 · exact(h.st x hx).grown (z:=x.2.2) hg (Nat.lt_of_lt_of_le hbo h.size) (hne _ hbo) (fun k e=>(hr k e).2.2 x hx)
theorem RnF.free {w:World} {n6 bo b4 b5:Nat} {fin:Bool} {z:Int} {l:List (Stm × Sta × Int)} {A:World} (h:RnF w n6 bo b4 b5 fin z l A):∀ r,A.heap.size≤r→Free bo A r:=by
 intro r hr v hv e
 obtain⟨ad,cap,v1,v2,-⟩:=h.v
 rw[v1.cell rfl] at hv
 cases hv
 have:=(v2.lt r e).2
 omega
theorem RnF.app {w:World} {n6 bo b4 b5:Nat} {l:List (Stm × Sta × Int)} {W W1:World} {ad:Option Addr} {cap:Nat} {tmp:Obj} {v':Value} (h:RnF w n6 bo b4 b5 false 0 l W) (hw:w.heap.size≤bo) (hbo:bo < n6) (h4:b4 < n6) (h4':b4≠bo) (h5:b5 < n6) (h5':b5≠bo) (x:Stm × Sta × Int) (hx:StW (fun k=>n6+2≤k) bo W x.1 x.2.1)
 (hc:Blk W bo #[.slice ad l.length cap] 75) (hrow:W.ownsRow n6 44 5 (.slice ad l.length cap) l.length (stFlat l)) (hown:W1.ownsRow n6 44 5 v' (l.length+1) (stFlat l ++ (stC x.1 x.2.1).toList)) (hg: (W.alloc tmp).grownBy W1 (Value.slice ad l.length cap).ownBlock) (hat:v'.ownBlock= (Value.slice ad l.length cap).ownBlock∨v'.ownBlock=some (W.alloc tmp).heap.size) :
 RnF w n6 bo b4 b5 false 0 (l ++ [x]) (W1.setCell ⟨bo,0,none⟩ v')∧HarE (fun k=>k≠bo) bo W (W1.setCell ⟨bo,0,none⟩ v')∧Blk W1 bo #[.slice ad l.length cap] 75:=by
 have hbW:bo < W.heap.size:=hc.lt
 have hsz:W.heap.size≤W1.heap.size:=by have:=hg.size;simp at this;omega
 have hv'b:v'.ownBlock≠some bo:=fun e=>by have:=(hown.lt bo e).1;omega
 have s1:∀ k,k < W.heap.size→(Value.slice ad l.length cap).ownBlock≠some k→k≠bo→(W1.setCell ⟨bo,0,none⟩ v').heap[k]?=W.heap[k]?:=fun k hk hv hne=>by
  rw[Below.heap_setCell _ _ _ k hne,hg.block k (by simp;omega) (fun e=>hv e.symm)]
  exact Below.heap_alloc W tmp k hk
 have hcell: (W1.setCell ⟨bo,0,none⟩ v').cell? ⟨bo,0,none⟩ = some v':=by
  have hb1:Blk W1 bo #[.slice ad l.length cap] 75:=(hc.alloc tmp).grown hg (fun e=>by have:=(hrow.lt bo e).1;omega)
  exact(hb1.store 0 v').cell rfl
 have hH:HarE (fun k=>k≠bo) bo W (W1.setCell ⟨bo,0,none⟩ v'):=by
  refine⟨⟨by simpa using hsz,fun k hk hl hf=>?_⟩,hg.os,hg.tape,hg.output⟩
  have hfk:=hf _ (hc.cell rfl)
  refine⟨s1 k hl hfk hk,fun u hu=>?_⟩
  rw[hcell] at hu
  cases hu
  rcases hat with e|e
  · rw[e];exact hfk
  · rw[e];intro q;simp at q;omega
 have hlowF:∀ k,k < n6→Free bo W k:=fun k hk u hu e=>by
  rw[hc.cell rfl] at hu
  cases hu
  have:=(hrow.lt k e).1
  omega
 have hnl:l.length+1= (l ++ [x]).length:=by simp
 obtain⟨ad',cap',rfl⟩:=owns_len hown
 obtain⟨ad0,cap0,-,-,v3⟩:=h.v
 rw[if_neg (by simp)] at v3
 have hb1:Blk W1 bo #[.slice ad l.length cap] 75:=(hc.alloc tmp).grown hg (fun e=>by have:=(hrow.lt bo e).1;omega)
 refine⟨⟨?_,?_,⟨ad',cap',?_,?_,?_⟩,?_,?_⟩,hH,hb1⟩
 · exact h.low.trans (HarE.below hH (by have:=h.size;omega) (fun k hk=>by omega) (fun k hk=>hlowF k (by omega)))
 · have:=h.size;simp;omega
 · rw[←hnl];exact hb1.store 0 _
 · rw[←hnl,stFlat_snoc]
   exact hown.kept (grownBy_setCell' W1 bo _) (.inr hv'b)
 · rw[if_neg (by simp)]
   exact(hH.1.same b4 h4' (by have:=h.size;omega) (hlowF _ h4)).1.trans v3
 · exact(hH.1.same b5 h5' (by have:=h.size;omega) (hlowF _ h5)).1.trans h.r5
 · intro y hy
   have hy':StW (fun k=>n6+2≤k) bo W y.1 y.2.1:=by
    rcases List.mem_append.1 hy with q|q
    · exact h.st y q
    · rw[List.mem_singleton.1 q];exact hx
   exact hy'.har (hH.mono (fun k hk=>by omega))
theorem RnF.set {w:World} {n6 bo b4 b5:Nat} {l:List (Stm × Sta × Int)} {W:World} {ad:Option Addr} {cap:Nat} (h:RnF w n6 bo b4 b5 false 0 l W) (h4w:w.heap.size≤b4) (h5w:w.heap.size≤b5) (h45:b4≠b5) (h4:b4 < n6) (h4':b4≠bo) (h5:b5 < n6) (h5':b5≠bo)
 (hc:Blk W bo #[.slice ad l.length cap] 75) (hrow:W.ownsRow n6 44 5 (.slice ad l.length cap) l.length (stFlat l)) (z:Int) :
 RnF w n6 bo b4 b5 true z l ((W.setCell ⟨b4,0,none⟩ (.slice ad l.length cap)).setCell ⟨b5,0,none⟩ (.int .i64 z)):=by
 obtain⟨ad0,cap0,-,-,v3⟩:=h.v
 rw[if_neg (by simp)] at v3
 have hne:∀ k,k < n6→(Value.slice ad l.length cap).ownBlock≠some k:=fun k hk e=>by have:=(hrow.lt k e).1;omega
 refine⟨(h.low.setCell (p:=⟨b4,0,none⟩) h4w _).setCell (p:=⟨b5,0,none⟩) h5w _,by have:=h.size;simpa using this,⟨ad,cap,(hc.other (Ne.symm h4') _).other (Ne.symm h5') _,(hrow.kept (grownBy_setCell' W b4 _) (.inr (hne _ h4))).kept (grownBy_setCell' _ b5 _) (.inr (hne _ h5)),?_⟩,(h.r5.other (Ne.symm h45) _).store 0 _,fun x hx=>?_⟩
 · rw[if_pos rfl]
   exact(v3.store 0 _).other h45 _
 · exact(h.st x hx).har ((HarE.cell h4' (by omega) 0 _).trans (HarE.cell h5' (by omega) 0 _))
theorem RnF.put {w:World} {n6 bo b4 b5:Nat} {fin:Bool} {z:Int} {l:List (Stm × Sta × Int)} {W:World} (h:RnF w n6 bo b4 b5 fin z l W) (hw:w.heap.size≤n6) (hbo:bo < n6) (h4:b4 < n6) (h5:b5 < n6) (hf:Free bo W n6) (o:Obj):RnF w n6 bo b4 b5 fin z l (W.putObj n6 o):=
 h.abides hw hbo h4 h5 (grownBy_putObj' W n6 o) (fun r e=>by
  cases e
  refine⟨Nat.le_refl _,hf,fun x hx hn=>?_⟩
  have:=(h.st x hx).rn x.2.2 _ hn
  omega)
theorem RnF.row {w:World} {n6 bo b4 b5:Nat} {z:Int} {l:List (Stm × Sta × Int)} {W:World} (h:RnF w n6 bo b4 b5 true z l W):∃ v,Blk W b4 #[v] 75∧RowE (stateE n6) 5 W v (l.map fun x=>x.2.1):=by
 obtain⟨ad,cap,v1,v2,v3⟩:=h.v
 rw[if_pos rfl] at v3
 exact⟨_,v3,rowS_of v2 (fun x hx=>⟨(h.st x hx).1,(h.st x hx).lies (fun k hk=>by omega)⟩)⟩
theorem cells_new (w:World) (us:Array Value) (e:TypeId):∀ j u,us.toList[j]?=some u→(w.alloc (.cells us e)).cell? ((⟨w.heap.size,0,none⟩:Addr).add j)=some u:=by
 intro j u hj
 have: (⟨w.heap.size,0,none⟩:Addr).add j= ⟨w.heap.size,j,none⟩:=by unfold Addr.add;split <;> simp_all
 rw[this,World.cell?_alloc_at _ _ _ _ rfl]
 simpa using hj
theorem appendInE {F:Fence} {n:Nat} {P:Program} (w:World) {ops:Array Oper} {rest:List Oper} {o:Oper} {a:Act} {Q:Exit→Act→World→Prop}
 (hg:o.guard=none) (s x:Operand) (t:TypeId) (hop:o.op=Op.call { callee:=Callee.builtin Builtin.append,args:=#[s,x],argTypes:=#[t,t] })
 (base:Nat) (e:TypeId) (i:TypeInfo) (z:Value) (size bytes:Nat) (h1:P.underlying t=some (.slice e)) (h2:P.info? e=some i) (h3:i.zero=some z) (h4:i.size=size) (h5:i.bytes=bytes) (h6:z.cells.size=size) (h7:0 < size)
 (v:Value) (k:Nat) (xs:List Value) (hs:a.eval s=v) (hown:w.ownsRow base e size v k xs) (ad:Addr) (m c:Nat) (news:List Value) (hx:a.eval x=.slice (some ad) m c) (hn:news.length=m * size)
 (hc:∀ j u,news[j]?=some u→w.cell? (ad.add j)=some u) (h1c:∀ u ∈ news,u.oneCell'=true) (b1:k+m≤maxLen) (b2: (k+m) * bytes≤140737488355328) (b3:base≤w.heap.size)
 (hK:∀ v' w',w'.ownsRow base e size v' (k+m) (xs ++news)→w.grownBy w' v.ownBlock→(v'.ownBlock=v.ownBlock∨v'.ownBlock=some w.heap.size)→wpListIn F n P ops Q rest (a.put o.dst v') w') :
 wpListIn F n P ops Q (o :: rest) a w:=by
 refine wpListIn_plain hg fun K hK'=>?_
 obtain⟨v',w',hrun,r1,r2,_,r4⟩:=run_append_own_at (P:=P) w base t o.type e i z size bytes h1 h2 h3 h4 h5 h6 h7 v k xs hown ad m c news hn hc h1c b1 b2 b3
 unfold Oper.wpIn
 refine⟨?_,?_⟩
 · simp[Oper.about,hop,resolve,Target.leads,Sem.run_pure]
 · rw[Oper.semAt_plain F _ _ (by rw[hop];intro c hc';cases hc')]
   simp[execOp,hop,resolve,invoke,builtin,hs,hx,hrun,Result.andThen]
   exact hK' _ _ (hK v' w' r1 r2 r4)
theorem RowE.imp {α:Type} {E F:ElE α} {k:Nat} {w:World} {v:Value} {T:List α} (h:RowE E k w v T) (hEF:∀ a cs,E w a cs→F w a cs):RowE F k w v T:=by
 obtain⟨ad,cap,hv,hz,h⟩:=h
 refine⟨ad,cap,hv,hz,?_⟩
 rcases h with h| ⟨b,off,ha,hg,hc⟩
 · exact .inl h
 · refine .inr ⟨b,off,ha,hg,fun i a hi=>?_⟩
   obtain⟨cs,h1,h2,h3⟩:=hc i a hi
   exact⟨cs,h1,hEF _ _ h2,h3⟩
theorem stateE_mono {B C:Nat} (hC:C≤B) (w:World):∀ s cs,stateE B w s cs→stateE C w s cs:=fun s cs h=>by
 obtain⟨r,e,hs,hA⟩:=h
 exact⟨r,e,hs,hA.mono hC⟩
end Go.Proofs.YtadjnfpomjopkaaGreat
namespace Go.Proofs.YtadjnfpomjopkaaGreat
open Go.RowKit
def atV (j:Int):List Int→List Int→Int→Int
 | a :: A,n :: N,v=>atV j A N (if a=j then n else v)
 | _,_,v=>v
theorem atV_step {j:Int}:∀ (A N:List Int) {k:Nat} {a n:Int} (v:Int),A[k]?=some a→N[k]?=some n→atV j (A.take (k+1)) (N.take (k+1)) v=if a=j then n else atV j (A.take k) (N.take k) v
 | [],_,_,_,_,_,hA,_=>by cases hA
 | _ :: _,[],_,_,_,_,_,hN=>by cases hN
 | a' :: A,n' :: N,0,a,n,v,hA,hN=>by
   simp only[List.getElem?_cons_zero,Option.some.injEq] at hA hN
   subst hA hN
   simp only[List.take_succ_cons,List.take_zero]
   rfl
 | a' :: A,n' :: N,k+1,a,n,v,hA,hN=>by
   simp only[List.getElem?_cons_succ] at hA hN
   simp only[List.take_succ_cons]
   exact atV_step A N (if a'=j then n' else v) hA hN
theorem atV_zero (j:Int) (A N:List Int) (v:Int):atV j (A.take 0) (N.take 0) v=v:=rfl
theorem setV_at:∀ (A N l:List Int) {j:Nat} {v:Int},l[j]?=some v→(setV A N l)[j]?=some (atV (j:Int) A N v)
 | [],N,l,j,v,h=>by cases N <;> exact h
 | _ :: _,[],l,j,v,h=>h
 | a :: A,n :: N,l,j,v,h=>by
   unfold setV atV
   refine setV_at A N _ ?_
   have hl:=(List.getElem?_eq_some_iff.1 h).1
   by_cases e:a= (j:Int)
   · subst e
     rw[if_pos rfl,if_pos (inM_iff.2 ⟨by omega,by omega⟩),Int.toNat_natCast,List.getElem?_set]
     simp[hl]
   · rw[if_neg e]
     split
     · rename_i hin
       have:=inM_iff.1 hin
       rw[List.getElem?_set,if_neg (by omega)];exact h
     · exact h
theorem ints_snoc {L:List Int} {j:Nat} {c:Int} (h:L[j]?=some c):ints (L.take (j+1))=ints (L.take j) ++ [.int .i64 c]:=by
 rw[List.take_add_one,h];simp[ints]
theorem ownEnd {w:World} {base:Nat} {t:TypeId} {v:Value} {j:Nat} {L:List Int} (h:w.ownsRow base t 1 v j (ints (L.take j))) (hj:j=L.length):∃ ad cap,v=.slice ad L.length cap∧OwnI w base ad t L∧(ad=none→cap=0)∧L.length≤cap∧cap≤maxLen:=by
 subst hj;rw[List.take_length] at h;exact own_row h
theorem Turned.set0 {V W:World} {b:Nat} {x0 x1 x2 x3 x4:Value} {t:TypeId} (h:Turned V W b #[x0,x1,x2,x3,x4] t) (u:Value):Turned V (W.setCell ⟨b,0,none⟩ u) b #[u,x1,x2,x3,x4] t:=h.store 0 u
theorem Turned.set3 {V W:World} {b:Nat} {x0 x1 x2 x3 x4:Value} {t:TypeId} (h:Turned V W b #[x0,x1,x2,x3,x4] t) (u:Value):Turned V (W.setCell ⟨b,3,none⟩ u) b #[x0,x1,x2,u,x4] t:=h.store 3 u
theorem Turned.set4 {V W:World} {b:Nat} {x0 x1 x2 x3 x4:Value} {t:TypeId} (h:Turned V W b #[x0,x1,x2,x3,x4] t) (u:Value):Turned V (W.setCell ⟨b,4,none⟩ u) b #[x0,x1,x2,x3,u] t:=h.store 4 u
theorem owns_set {w:World} {base b j:Nat} {t:TypeId} {v:Value} {n:Nat} {xs:List Value} (h:w.ownsRow base t 1 v n xs) (hb:b < base) (u:Value): (w.setCell ⟨b,j,none⟩ u).ownsRow base t 1 v n xs:=by
 exact h.kept (row:=some b) ⟨rfl,rfl,rfl,by simp,fun k hk hne=>Below.heap_setCell _ _ _ k (fun e=>hne (by rw[e]))⟩ (.inr (fun e=>by have:=(h.lt b e).1;omega))
theorem rtake_end {w V V':World} {M:Mdl} {s:Sta} {v:Mv} {B B3 B4 b:Nat} {cs:Array Value} {u:TypeId} {L0 L3 L4:List Int} {ad0 ad3 ad4:Option Addr} {c0 c3 c4:Nat} (e0: (takeS M s v).vals=L0) (e3: (takeS M s v).did=L3) (e4: (takeS M s v).cnt=L4)
 (hB:w.heap.size≤b) (hb:b < B) (hB3:B≤B3) (hB4:B≤B4) (hT:Turned V V' b cs u) (h0:OwnI V B ad0 2 L0) (h3:OwnI V B3 ad3 3 L3) (h4:OwnI V B4 ad4 3 L4)
 (p0: (ad0=none→c0=0)∧L0.length≤c0∧c0≤maxLen) (p3: (ad3=none→c3=0)∧L3.length≤c3∧c3≤maxLen) (p4: (ad4=none→c4=0)∧L4.length≤c4∧c4≤maxLen) (hbel:Below w.heap.size w V') :
 TkP w M s v (.returned (.agg #[.slice ad0 L0.length c0,.int .i64 s.opn,.int .i64 s.dne,.slice ad3 L3.length c3,.slice ad4 L4.length c4])) V':=by
 have r0:=(h0.turn hT hb).row c0 p0.2.1 p0.2.2 p0.1
 have r3:=(h3.turn hT (by omega)).row c3 p3.2.1 p3.2.2 p3.1
 have r4:=(h4.turn hT (by omega)).row c4 p4.2.1 p4.2.2 p4.1
 subst e0 e3 e4
 exact⟨⟨⟨ad0,c0,ad3,c3,ad4,c4⟩,rfl,⟨r0,r3,r4⟩,⟨h0.lies (by omega),h3.lies (by omega),h4.lies (by omega)⟩⟩,hbel⟩
end Go.Proofs.YtadjnfpomjopkaaGreat
