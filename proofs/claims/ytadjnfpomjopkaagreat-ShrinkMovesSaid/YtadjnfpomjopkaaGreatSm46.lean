import Derived.Test.YtadjnfpomjopkaaGreatSm44
import Derived.Test.YtadjnfpomjopkaaGreatSm45
import Derived.Test.YtadjnfpomjopkaaGreatSm03
import Derived.Test.YtadjnfpomjopkaaGreatRows
import Derived.WalkKit
import Derived.ProofKit
import Derived.OpenShut
import Derived.ShutString
import Derived.ChangeOld
import Derived.Below
namespace Go.Proofs.YtadjnfpomjopkaaGreat
open Go.RowKit
structure MdN (M:Mdl):Prop where
 roles:∀ x ∈ M.roles,N64 x.2
 inits:∀ x ∈ M.inits,N64 x
 times:∀ x ∈ M.events,x.times≤9223372036854775807
theorem goodR_of {M:Mdl} (hn:MdN M) (h:NotC M):GoodR M:=⟨by have:=h.1.2.2.1;omega,by have:=h.1.2.1;omega,by have:=h.1.2.2.2.2.2.2.2.2.2;omega,by have:=h.1.2.2.2.1;omega,by have:=h.1.2.2.2.2.2.1;omega,hn.roles,hn.inits⟩
theorem findS_len {M:Mdl} (h:NotC M) (x:Bool × Int): (condS M x).length≤10000:=by
 unfold condS findS
 split
 · rename_i heq
   split at heq
   · split at heq
     · rename_i hin
       have hi:=inM_iff.1 hin
       have hx:=List.getElem?_eq_getElem (l:=M.miles) (i:=x.2.toNat) (by omega)
       have hb:=h.2.2 _ _ hx
       cases heq
       rw[mlG_of hx];omega
     · cases heq
   · split at heq
     · rename_i hin
       have hi:=inM_iff.1 hin
       have hx:=List.getElem?_eq_getElem (l:=M.guards) (i:=x.2.toNat) (by omega)
       have hb:=h.2.1 _ _ hx
       cases heq
       rw[gdG_of hx];omega
     · cases heq
 · exact Nat.zero_le _
theorem goodD_of {M:Mdl} (hn:MdN M) (h:NotC M):GoodD M:=⟨⟨by have:=h.1.2.2.1;omega,by have:=h.1.2.2.2.2.2.2.2.2.2;omega,by have:=h.1.2.2.2.1;omega,fun x _=>findS_len h x⟩,by have:=h.1.2.2.2.2.1;omega,hn.times⟩
set_option maxRecDepth 100000 in
set_option maxHeartbeats 8000000 in
theorem lawMv_any {w:World} {q:Mem} {M:Mdl} (hm:MdQ w q M) {lad:Option Addr} {lcp:Nat} {L:List Mv} (hl:RowE moveE 3 w (.slice lad L.length lcp) L) (hLn:∀ v ∈ L,∀ n ∈ v.vals,N64 n) (hn:MdN M) (x:Ins) :
 Calls Tryz.prog 3 #[.agg (mdC q M),.slice lad L.length lcp,.agg (insC x)] w (Ret w (.bool true)):=by
 obtain⟨Lq,hLq,hin,hq⟩:=mq_of hl
 have hll:Lq.length=L.length:=by rw[←hLq,List.length_map]
 obtain⟨W1,h1,HB1,HM,HF⟩:=boxM hm
 obtain⟨W2,h2,hb2,x2⟩:=box1 W1 (insC x) 37
 have HB2:=Lib.hid (HB1.out.trans (hb2.mono HB1.out.size))
 have HMQ:Hid (∀ V,Below W2.heap.size W2 V→MdQ V q M):=fun V hV=>HM.out.below (hb2.trans (hV.mono hb2.size))
 have HBW:Hid (∀ V,Below W2.heap.size W2 V→Below w.heap.size w V):=fun V hV=>HB2.out.trans (hV.mono HB2.out.size)
 have HFX:Hid (∀ V,Below W2.heap.size W2 V→(MdB V w.heap.size q M)∧Blk V W1.heap.size (insC x) 37):=fun V hV=>⟨HF.out V (hb2.trans (hV.mono hb2.size)),x2.keep hV⟩
 have hbm:Blk W2 w.heap.size (mdC q M) 32:=by
  have:Blk W1 w.heap.size (mdC q M) 32:=by rw[←h1];exact Blk.new _ _ _
  exact this.keep hb2
 have HAW:=Lib.hid (fun(W:World)=>awake48 W)
 have HG12:Hid (Calls Tryz.prog 4 #[.agg (mdC q M)] W2 (GrPost (NotC M) W2)):=great12c_any (HMQ.out _ (Below.refl _ _))
 have HG20:Hid (∀ V,Below W2.heap.size W2 V→Calls Tryz.prog 5 #[.slice lad L.length lcp] V fun e w'=>∃ b,e=.returned (.bool b)∧Below V.heap.size V w'):=fun V hV=>great20_any (hl.below moveE_keep (HBW.out V hV))
 obtain⟨P,hP⟩:∃ P:List Mq→Bool,(fun C=>runsS M x (C.map (·.1)))=P:=⟨_,rfl⟩
 have HSM:Hid (NotC M→L.length≤12→∀ V,Below W2.heap.size W2 V→Calls Tryz.prog 7 #[.agg (mdC q M),.slice lad L.length lcp,.func (.func 8) #[] #[.pointer (some ⟨w.heap.size,0,none⟩),.pointer (some ⟨W1.heap.size,0,none⟩)]] V fun e w'=>∃ v',e=.returned v'∧MqIn w' v' (shrG P Lq)∧Below V.heap.size V w'):=by
  intro hc hl12 V hV
  have:=smovesQ (Lq:=Lq) (lad:=lad) (lcp:=lcp) x (hbm.keep hV) (x2.keep hV) (HMQ.out V hV) (by rw[hll];exact hin.keep (HBW.out V hV)) (fun y hy=>(hq y hy).keep (HBW.out V hV)) (fun y hy=>hLn y.1 (by rw[←hLq];exact List.mem_map_of_mem hy)) (goodD_of hn hc) (goodR_of hn hc) (by omega)
  rw[hll,hP] at this
  exact this
 have HRM:Hid (NotC M→L.length≤12→∀ V,Below W2.heap.size W2 V→Calls Tryz.prog 11 #[.agg (mdC q M),.slice lad L.length lcp,.agg (insC x)] V fun e w'=>∃ v',e=.returned v'∧MqIn w' v' (shrG P Lq)∧Below V.heap.size V w'):=by
  intro hc hl12 V hV
  have:=rmovesQ (Lq:=Lq) (lad:=lad) (lcp:=lcp) (HMQ.out V hV) (by rw[hll];exact hin.keep (HBW.out V hV)) (fun y hy=>(hq y hy).keep (HBW.out V hV)) (fun y hy=>hLn y.1 (by rw[←hLq];exact List.mem_map_of_mem hy)) (goodD_of hn hc) (goodR_of hn hc) (by omega) x
  rw[hll,hP] at this
  exact this
 have HRU:Hid (NotC M→L.length≤12→∀ V ad n cp (C:List Mq),Below W2.heap.size W2 V→MqIn V (.slice ad n cp) C→(∀ y ∈ C,y ∈ Lq)→C.length≤1000→Calls Tryz.prog 13 #[.agg (mdC q M),.slice ad n cp,.agg (insC x)] V (Ret V (.bool (P C)))):=by
  intro hc hl12 V ad n cp C hV hC hmem hcl
  have hrw:=rowM_of hC (fun y hy=>(hq y (hmem y hy)).keep (HBW.out V hV))
  obtain⟨ad',cp',e⟩:=hrw.len
  rw[e] at hrw ⊢
  rw[←hP]
  exact rrunsQ (HMQ.out V hV) hrw (fun v hv=>by
   obtain⟨y,hy,rfl⟩:=List.mem_map.1 hv
   exact hLn y.1 (by rw[←hLq];exact List.mem_map_of_mem (hmem y hy))) (goodD_of hn hc) (goodR_of hn hc) (by rw[List.length_map];exact hcl) x
 have HSS:Hid (∀ V ad n cp ad' n' cp' (C:List Mq),Below W2.heap.size W2 V→MqIn V (.slice ad n cp) C→MqIn V (.slice ad' n' cp') C→(∀ y ∈ C,y ∈ Lq)→Calls Tryz.prog 10 #[.slice ad n cp,.slice ad' n' cp'] V (Ret V (.bool true))):=by
  intro V ad n cp ad' n' cp' C hV h1 h2 hmem
  have r1:=rowM_of h1 (fun y hy=>(hq y (hmem y hy)).keep (HBW.out V hV))
  have r2:=rowM_of h2 (fun y hy=>(hq y (hmem y hy)).keep (HBW.out V hV))
  obtain⟨b1,k1,e1⟩:=r1.len
  obtain⟨b2,k2,e2⟩:=r2.len
  rw[e1] at r1 ⊢
  rw[e2] at r2 ⊢
  have:=rsame19Q r1 r2
  rw[sameG_iff.2 rfl] at this
  exact this
 have HPT:Hid (∀ V ad n cp,Below W2.heap.size W2 V→MqIn V (.slice ad n cp) (shrG P Lq)→Calls Tryz.prog 12 #[.slice ad n cp,.slice lad L.length lcp] V (Ret V (.bool true))):=by
  intro V ad n cp hV h1
  have hsub: (shrG P Lq).Sublist Lq:=shrG_sub P Lq
  have r1:=rowM_of h1 (fun y hy=>(hq y (hsub.subset hy)).keep (HBW.out V hV))
  obtain⟨b1,k1,e1⟩:=r1.len
  rw[e1] at r1 ⊢
  have:=rpartQ r1 (hl.below moveE_keep (HBW.out V hV))
  rw[partG_sub _ _ (by rw[←hLq];exact hsub.map _)] at this
  exact this
 have HLI:Hid (∀ V,Below W2.heap.size W2 V→MqIn V (.slice lad L.length lcp) Lq):=fun V hV=>hin.keep (HBW.out V hV)
 have HPP:Hid ((P Lq=true→P (shrG P Lq)=true)∧(P Lq=false→shrG P Lq=Lq)∧(∀ y ∈ shrG P Lq,y ∈ Lq)∧(shrG P Lq).length≤L.length):=⟨fun h=>by rw[shrG_hold P Lq,h],fun h=>shrG_no h,fun y hy=>(shrG_sub P Lq).subset hy,by rw[←hll];exact(shrG_sub P Lq).length_le⟩
 have HLL:=Lib.hid hll
 unfold MdB at HFX
 unfold insC at h2 HFX HRM HRU ⊢
 unfold mdC at h1 HG12 HSM HRM HRU ⊢
 have hlx:=hl.max
 obtain⟨S,hS⟩:∃ S,shrG P Lq=S:=⟨_,rfl⟩
 rw[hS] at HSM HRM HPT HPP
 have HB0:Hid (Below W2.heap.size W2 W2):=Below.refl _ _
 clear hm hl hLn hn hLq hin hq hll hb2 x2 hbm hP HM HF hS
 obtain⟨⟨c0,c1,c2,c3,c4,c5,c6,c7,c8,c9⟩,hx⟩:=HFX.out _ HB0.out
 have y0:=hx.cell (i:=0) rfl
 have y1:=hx.cell (i:=1) rfl
 have y2:=hx.cell (i:=2) rfl
 have y3:=hx.cell (i:=3) rfl
 have y4:=hx.cell (i:=4) rfl
 have y5:=hx.cell (i:=5) rfl
 have y6:=hx.cell (i:=6) rfl
 clear hx
 go_enter Tryz.func3,Tryz.ntmps3
 go_wp2_with fail
 refine HG12.out.mono ?_
 rintro e3 W3 ⟨g1,rfl,HN,hb3⟩
 have HB3:=Lib.hid hb3
 have HBw3:=Lib.hid (HBW.out _ hb3)
 clear hb3 HG12 c0 c1 c2 c3 c4 c5 c6 c7 c8 c9 y0 y1 y2 y3 y4 y5 y6
 cases g1
 case true=>
  go_wp2_with fail
  refine(HAW.out _).mono ?_
  rintro e9 w9 ⟨rfl,hb9⟩
  have HB9:=Lib.hid (HBw3.out.trans (hb9.mono HBw3.out.size))
  clear hb9
  go_wp2
  go_ret
  exact⟨rfl,HB9.out⟩
 have hNC:=HN.out rfl
 go_wp2_with fail
 refine(HG20.out _ HB3.out).mono ?_
 rintro e4 W4 ⟨g2,rfl,hb4⟩
 have HB4:=Lib.hid (HB3.out.trans (hb4.mono HB3.out.size))
 have HBw4:=Lib.hid (HBW.out _ HB4.out)
 clear hb4
 cases g2
 case true=>
  go_wp2_with fail
  refine(HAW.out _).mono ?_
  rintro e9 w9 ⟨rfl,hb9⟩
  have HB9:=Lib.hid (HBw4.out.trans (hb9.mono HBw4.out.size))
  clear hb9
  go_wp2
  go_ret
  exact⟨rfl,HB9.out⟩
 by_cases h12:12 < L.length
 · have e12: (12:Int) < (L.length:Int):=by omega
   clear h12
   go_wp2_with fail
   refine(HAW.out _).mono ?_
   rintro e9 w9 ⟨rfl,hb9⟩
   have HB9:=Lib.hid (HBw4.out.trans (hb9.mono HBw4.out.size))
   clear hb9
   go_wp2
   go_ret
   exact⟨rfl,HB9.out⟩
 have e12:¬(12:Int) < (L.length:Int):=by omega
 have h12':L.length≤12:=by omega
 have HSMX:=Lib.hid (HSM.out hNC h12' _ HB4.out)
 have HRMX:=Lib.hid (HRM.out hNC h12')
 have HRUX:=Lib.hid (HRU.out hNC h12')
 clear h12 hNC HSM HRM HRU
 obtain⟨⟨c0,c1,c2,c3,c4,c5,c6,c7,c8,c9⟩,hx⟩:=HFX.out _ HB4.out
 have y0:=hx.cell (i:=0) rfl
 have y1:=hx.cell (i:=1) rfl
 have y2:=hx.cell (i:=2) rfl
 have y3:=hx.cell (i:=3) rfl
 have y4:=hx.cell (i:=4) rfl
 have y5:=hx.cell (i:=5) rfl
 have y6:=hx.cell (i:=6) rfl
 clear hx
 go_wp2_with fail
 refine HSMX.out.mono ?_
 rintro e5 W5 ⟨v5,rfl,hi5,hb5⟩
 have HB5:=Lib.hid (HB4.out.trans (hb5.mono HB4.out.size))
 have HI5:=Lib.hid hi5
 obtain⟨ad5,cp5,e5⟩:=hi5.len
 subst e5
 clear hi5 hb5 HSMX c0 c1 c2 c3 c4 c5 c6 c7 c8 c9 y0 y1 y2 y3 y4 y5 y6
 obtain⟨⟨c0,c1,c2,c3,c4,c5,c6,c7,c8,c9⟩,hx⟩:=HFX.out _ HB5.out
 have y0:=hx.cell (i:=0) rfl
 have y1:=hx.cell (i:=1) rfl
 have y2:=hx.cell (i:=2) rfl
 have y3:=hx.cell (i:=3) rfl
 have y4:=hx.cell (i:=4) rfl
 have y5:=hx.cell (i:=5) rfl
 have y6:=hx.cell (i:=6) rfl
 clear hx
 go_wp2_with fail
 refine(HRMX.out _ HB5.out).mono ?_
 rintro e6 W6 ⟨v6,rfl,hi6,hb6⟩
 have HB6:=Lib.hid (HB5.out.trans (hb6.mono HB5.out.size))
 have HI6:=Lib.hid hi6
 have HI56:=Lib.hid (HI5.out.keep hb6)
 obtain⟨ad6,cp6,e6⟩:=hi6.len
 subst e6
 clear hi6 hb6 HRMX c0 c1 c2 c3 c4 c5 c6 c7 c8 c9 y0 y1 y2 y3 y4 y5 y6
 go_wp2_with fail
 refine(HSS.out _ _ _ _ _ _ _ S HB6.out HI56.out HI6.out HPP.out.2.2.1).mono ?_
 rintro e7 W7 ⟨rfl,hb7⟩
 have HB7:=Lib.hid (HB6.out.trans (hb7.mono HB6.out.size))
 have HI57:=Lib.hid (HI56.out.keep hb7)
 clear hb7 HI56 HI6 HSS
 go_wp2_with fail
 refine(HPT.out _ _ _ _ HB7.out HI57.out).mono ?_
 rintro e8 W8 ⟨rfl,hb8⟩
 have HB8:=Lib.hid (HB7.out.trans (hb8.mono HB7.out.size))
 have HI58:=Lib.hid (HI57.out.keep hb8)
 clear hb8 HI57 HPT
 have HSF:Hid (∀ V,Below W8.heap.size W8 V→MdB V w.heap.size q M∧V.cell? ⟨W1.heap.size,0,none⟩ = some (.int .i64 x.op)∧V.cell? ⟨W1.heap.size,1,none⟩ = some (.int .i64 x.l.1)∧V.cell? ⟨W1.heap.size,2,none⟩ = some (.int .i64 x.l.2)∧V.cell? ⟨W1.heap.size,3,none⟩ = some (.int .i64 x.r.1)∧V.cell? ⟨W1.heap.size,4,none⟩ = some (.int .i64 x.r.2)∧V.cell? ⟨W1.heap.size,5,none⟩ = some (.int .i64 x.n)∧V.cell? ⟨W1.heap.size,6,none⟩ = some (.int .i64 x.user)):=fun V hV=>by
  obtain⟨m,hx⟩:=HFX.out V (HB8.out.trans (hV.mono HB8.out.size))
  exact⟨by unfold MdB;exact m,hx.cell rfl,hx.cell rfl,hx.cell rfl,hx.cell rfl,hx.cell rfl,hx.cell rfl,hx.cell rfl⟩
 have HR1:=Lib.hid (fun V (hV:Below W8.heap.size W8 V)=>HRUX.out V ad5 S.length cp5 S (HB8.out.trans (hV.mono HB8.out.size)) (HI58.out.keep hV) HPP.out.2.2.1 (by have:=HPP.out.2.2.2;omega))
 have HR2:=Lib.hid (fun V (hV:Below W8.heap.size W8 V)=>HRUX.out V lad L.length lcp Lq (HB8.out.trans (hV.mono HB8.out.size)) (HLI.out V (HB8.out.trans (hV.mono HB8.out.size))) (fun _ h=>h) (by have:=HLL.out;omega))
 obtain⟨pb,hpb⟩:∃ b,P Lq=b:=⟨_,rfl⟩
 cases pb
 · have hSL:S=Lq:=HPP.out.2.1 hpb
   have hps:P S=false:=by rw[hSL];exact hpb
   have hsl:S.length=L.length:=by rw[hSL];exact HLL.out
   have bq: ((S.length:Int) == (L.length:Int))=true:=by simp[hsl]
   rw[hps] at HR1
   rw[hpb] at HR2
   clear hSL hps hsl hpb
   go_upto_region 6 with fail
   have hbz:Below W8.heap.size W8 W8.drew:=(Below.refl _ _).drew
   refine startH (S:=fun V=>MdB V w.heap.size q M∧V.cell? ⟨W1.heap.size,0,none⟩ = some (.int .i64 x.op)∧V.cell? ⟨W1.heap.size,1,none⟩ = some (.int .i64 x.l.1)∧V.cell? ⟨W1.heap.size,2,none⟩ = some (.int .i64 x.l.2)∧V.cell? ⟨W1.heap.size,3,none⟩ = some (.int .i64 x.r.1)∧V.cell? ⟨W1.heap.size,4,none⟩ = some (.int .i64 x.r.2)∧V.cell? ⟨W1.heap.size,5,none⟩ = some (.int .i64 x.n)∧V.cell? ⟨W1.heap.size,6,none⟩ = some (.int .i64 x.user)) (by kernel_rfl) (HSF.out _ hbz) (fun hHeld=>?_)
   refine takesH [0,1,2,4,5,6] (by kernel_rfl) (fun _ _ d _ _ h=>by cases d <;> exact h) (by kernel_rfl) (by kernel_rfl) (by assumption) ?_
   repeat (first
    | (refine TakeSeq.cons (v:=?_) rfl (by rfl) ?_ ?_
       rotate_left
       · ((intro w hSw;unfold MdB at hSw;go_simp) <;> (try with_reducible rfl))
       (try go_simp))
    | (refine TakeSeq.skip rfl (by rfl) ?_;(try go_simp)))
   refine TakeSeq.nil ?_
   refine callH 3 (by kernel_rfl) (by kernel_rfl) rfl (by rfl) ?_
   intro K hK
   go_simp
   go_at_call 13
   with_reducible refine(HR1.out _ hbz).mono ?_
   rintro e9 W9 ⟨rfl,hbn⟩
   have hbz:=hbz.trans (hbn.mono hbz.size)
   refine hK.out _ _ (HSF.out _ hbz) (fun hHeld=>?_)
   clear hK K hbn
   (try go_simp)
   refine callH 7 (by kernel_rfl) (by kernel_rfl) rfl (by rfl) ?_
   intro K hK
   go_simp
   go_at_call 13
   with_reducible refine(HR2.out _ hbz).mono ?_
   rintro e9 W9 ⟨rfl,hbn⟩
   have hbz:=hbz.trans (hbn.mono hbz.size)
   refine hK.out _ _ (HSF.out _ hbz) (fun hHeld=>?_)
   clear hK K hbn
   (try go_simp)
   refine takesH [8,9,10,11,12] (by kernel_rfl) (fun _ _ d _ _ h=>by cases d <;> exact h) (by kernel_rfl) (by kernel_rfl) (by assumption) ?_
   repeat (first
    | (refine TakeSeq.cons (v:=?_) rfl (by rfl) ?_ ?_
       rotate_left
       · ((intro w hSw;unfold MdB at hSw;go_simp) <;> (try with_reducible rfl))
       (try go_simp))
    | (refine TakeSeq.skip rfl (by rfl) ?_;(try go_simp)))
   refine TakeSeq.nil ?_
   refine callH 13 (by kernel_rfl) (by kernel_rfl) rfl (by rfl) ?_
   intro K hK
   go_simp
   go_at_call 13
   with_reducible refine(HR2.out _ hbz).mono ?_
   rintro e9 W9 ⟨rfl,hbn⟩
   have hbz:=hbz.trans (hbn.mono hbz.size)
   refine hK.out _ _ (HSF.out _ hbz) (fun hHeld=>?_)
   clear hK K hbn
   (try go_simp)
   refine takesH [14,15,16,17,18,19,20,21,22] (by kernel_rfl) (fun _ _ d _ _ h=>by cases d <;> exact h) (by kernel_rfl) (by kernel_rfl) (by assumption) ?_
   repeat (first
    | (refine TakeSeq.cons (v:=?_) rfl (by rfl) ?_ ?_
       rotate_left
       · ((intro w hSw;unfold MdB at hSw;go_simp) <;> (try with_reducible rfl))
       (try go_simp))
    | (refine TakeSeq.skip rfl (by rfl) ?_;(try go_simp)))
   refine TakeSeq.nil ?_
   refine callH 23 (by kernel_rfl) (by kernel_rfl) rfl (by rfl) ?_
   intro K hK
   go_simp
   go_at_call 6
   with_reducible refine(HAW.out _).mono ?_
   rintro e9 W9 ⟨rfl,hbn⟩
   have hbz:=hbz.trans (hbn.mono hbz.size)
   refine hK.out _ _ (HSF.out _ hbz) (fun hHeld=>?_)
   clear hK K hbn
   (try go_simp)
   refine takesH [24] (by kernel_rfl) (fun _ _ d _ _ h=>by cases d <;> exact h) (by kernel_rfl) (by kernel_rfl) (by assumption) ?_
   repeat (first
    | (refine TakeSeq.cons (v:=?_) rfl (by rfl) ?_ ?_
       rotate_left
       · ((intro w hSw;unfold MdB at hSw;go_simp) <;> (try with_reducible rfl))
       (try go_simp))
    | (refine TakeSeq.skip rfl (by rfl) ?_;(try go_simp)))
   refine TakeSeq.nil ?_
   refine callH 25 (by kernel_rfl) (by kernel_rfl) rfl (by rfl) ?_
   intro K hK
   go_simp
   refine hK.out _ _ hHeld (fun hHeld=>?_)
   clear hK K
   (try go_simp)
   refine doneH (by kernel_rfl) ?_
   have HBZ:=Lib.hid (HBW.out _ (HB8.out.trans (hbz.mono HB8.out.size)))
   clear hbz hHeld
   go_wp2
   go_ret
   exact⟨rfl,HBZ.out⟩
 · have hps:P S=true:=HPP.out.1 hpb
   rw[hps] at HR1
   rw[hpb] at HR2
   clear hps hpb
   go_upto_region 6 with fail
   have hbz:Below W8.heap.size W8 W8.drew:=(Below.refl _ _).drew
   refine startH (S:=fun V=>MdB V w.heap.size q M∧V.cell? ⟨W1.heap.size,0,none⟩ = some (.int .i64 x.op)∧V.cell? ⟨W1.heap.size,1,none⟩ = some (.int .i64 x.l.1)∧V.cell? ⟨W1.heap.size,2,none⟩ = some (.int .i64 x.l.2)∧V.cell? ⟨W1.heap.size,3,none⟩ = some (.int .i64 x.r.1)∧V.cell? ⟨W1.heap.size,4,none⟩ = some (.int .i64 x.r.2)∧V.cell? ⟨W1.heap.size,5,none⟩ = some (.int .i64 x.n)∧V.cell? ⟨W1.heap.size,6,none⟩ = some (.int .i64 x.user)) (by kernel_rfl) (HSF.out _ hbz) (fun hHeld=>?_)
   refine takesH [0,1,2,4,5,6] (by kernel_rfl) (fun _ _ d _ _ h=>by cases d <;> exact h) (by kernel_rfl) (by kernel_rfl) (by assumption) ?_
   repeat (first
    | (refine TakeSeq.cons (v:=?_) rfl (by rfl) ?_ ?_
       rotate_left
       · ((intro w hSw;unfold MdB at hSw;go_simp) <;> (try with_reducible rfl))
       (try go_simp))
    | (refine TakeSeq.skip rfl (by rfl) ?_;(try go_simp)))
   refine TakeSeq.nil ?_
   refine callH 3 (by kernel_rfl) (by kernel_rfl) rfl (by rfl) ?_
   intro K hK
   go_simp
   go_at_call 13
   with_reducible refine(HR1.out _ hbz).mono ?_
   rintro e9 W9 ⟨rfl,hbn⟩
   have hbz:=hbz.trans (hbn.mono hbz.size)
   refine hK.out _ _ (HSF.out _ hbz) (fun hHeld=>?_)
   clear hK K hbn
   (try go_simp)
   refine callH 7 (by kernel_rfl) (by kernel_rfl) rfl (by rfl) ?_
   intro K hK
   go_simp
   go_at_call 13
   with_reducible refine(HR2.out _ hbz).mono ?_
   rintro e9 W9 ⟨rfl,hbn⟩
   have hbz:=hbz.trans (hbn.mono hbz.size)
   refine hK.out _ _ (HSF.out _ hbz) (fun hHeld=>?_)
   clear hK K hbn
   (try go_simp)
   refine takesH [8,9,10,11,12] (by kernel_rfl) (fun _ _ d _ _ h=>by cases d <;> exact h) (by kernel_rfl) (by kernel_rfl) (by assumption) ?_
   repeat (first
    | (refine TakeSeq.cons (v:=?_) rfl (by rfl) ?_ ?_
       rotate_left
       · ((intro w hSw;unfold MdB at hSw;go_simp) <;> (try with_reducible rfl))
       (try go_simp))
    | (refine TakeSeq.skip rfl (by rfl) ?_;(try go_simp)))
   refine TakeSeq.nil ?_
   refine callH 13 (by kernel_rfl) (by kernel_rfl) rfl (by rfl) ?_
   intro K hK
   go_simp
   go_at_call 13
   with_reducible refine(HR2.out _ hbz).mono ?_
   rintro e9 W9 ⟨rfl,hbn⟩
   have hbz:=hbz.trans (hbn.mono hbz.size)
   refine hK.out _ _ (HSF.out _ hbz) (fun hHeld=>?_)
   clear hK K hbn
   (try go_simp)
   refine takesH [14,15,16,17,18,19,20,21,22] (by kernel_rfl) (fun _ _ d _ _ h=>by cases d <;> exact h) (by kernel_rfl) (by kernel_rfl) (by assumption) ?_
   repeat (first
    | (refine TakeSeq.cons (v:=?_) rfl (by rfl) ?_ ?_
       rotate_left
       · ((intro w hSw;unfold MdB at hSw;go_simp) <;> (try with_reducible rfl))
       (try go_simp))
    | (refine TakeSeq.skip rfl (by rfl) ?_;(try go_simp)))
   refine TakeSeq.nil ?_
   refine callH 23 (by kernel_rfl) (by kernel_rfl) rfl (by rfl) ?_
   intro K hK
   go_simp
   go_at_call 6
   with_reducible refine(HAW.out _).mono ?_
   rintro e9 W9 ⟨rfl,hbn⟩
   have hbz:=hbz.trans (hbn.mono hbz.size)
   refine hK.out _ _ (HSF.out _ hbz) (fun hHeld=>?_)
   clear hK K hbn
   (try go_simp)
   refine takesH [24] (by kernel_rfl) (fun _ _ d _ _ h=>by cases d <;> exact h) (by kernel_rfl) (by kernel_rfl) (by assumption) ?_
   repeat (first
    | (refine TakeSeq.cons (v:=?_) rfl (by rfl) ?_ ?_
       rotate_left
       · ((intro w hSw;unfold MdB at hSw;go_simp) <;> (try with_reducible rfl))
       (try go_simp))
    | (refine TakeSeq.skip rfl (by rfl) ?_;(try go_simp)))
   refine TakeSeq.nil ?_
   refine callH 25 (by kernel_rfl) (by kernel_rfl) rfl (by rfl) ?_
   intro K hK
   go_simp
   refine hK.out _ _ hHeld (fun hHeld=>?_)
   clear hK K
   (try go_simp)
   refine doneH (by kernel_rfl) ?_
   have HBZ:=Lib.hid (HBW.out _ (HB8.out.trans (hbz.mono HB8.out.size)))
   clear hbz hHeld
   go_wp2
   go_ret
   exact⟨rfl,HBZ.out⟩
end Go.Proofs.YtadjnfpomjopkaaGreat
namespace Go.Proofs.YtadjnfpomjopkaaGreat
open Go.RowKit Go.ChangeShapes Go.WideShapes Go.Deep
section
variable {H:Type} {enc:TypeId × Value→H} {w:World} {base:Nat} {sp:Nat→Bool} {hd:Bool}
theorem arg_model {fuel:Nat} {xs:Array Value} {x:DataW H × List MemPlace} (h:DataW.trod enc Tryz.prog w base sp hd fuel 32 xs.toList=some x):∃ (M:Mdl) (q:Mem),xs=mdC q M∧MdQ w q M∧MdN M:=by
 obtain⟨_,_,_,_,hlen,_⟩:=DataW.trod_struct Tryz.underlying32 h
 rw[cel_model] at hlen
 obtain⟨M,hM,hOK⟩:=op_model _ _ _ hlen h
 obtain⟨m0,m1,m2,m3,m4,m5,m6,m7,m8,m9,hc,hR⟩:=MdR.of_model hM
 obtain⟨q,hq,hQ⟩:=MdQ.of hR
 refine⟨M,q,by rw[←hq];apply Array.toList_inj.1;exact hc,hQ,⟨hOK.2.1,hOK.1,fun y hy=>?_⟩⟩
 exact(hOK.2.2.2.1 y hy).2.2.2.2
theorem arg_moves {fuel:Nat} {a:Option Addr} {n c:Nat} {x:DataW H × List MemPlace} (h:DataW.trod enc Tryz.prog w base sp hd fuel 33 [.slice a n c]=some x):∃ L:List Mv,L.length=n∧RowE moveE 3 w (.slice a n c) L∧∀ v ∈ L,∀ n ∈ v.vals,N64 n:=by
 obtain⟨L,hL,hOK⟩:=open_rowE moveE 3 moveOK Tryz.underlying33 cel_move (by decide) op_move h
 obtain⟨ad,cap,e⟩:=hL.len
 simp only[Value.slice.injEq] at e
 exact⟨L,e.2.1.symm,hL,fun v hv=>(hOK v hv).2.2⟩
theorem arg_inst {fuel:Nat} {xs:Array Value} {x:DataW H × List MemPlace} (h:DataW.trod enc Tryz.prog w base sp hd fuel 37 xs.toList=some x):∃ y:Ins,xs=insC y:=by
 obtain⟨_,_,_,_,hlen,_⟩:=DataW.trod_struct Tryz.underlying37 h
 rw[cel_inst] at hlen
 obtain⟨y,hy,_⟩:=op_inst _ _ _ hlen h
 exact⟨y,by apply Array.toList_inj.1;rw[hy];rfl⟩
end
end Go.Proofs.YtadjnfpomjopkaaGreat
namespace Go.Proofs.YtadjnfpomjopkaaGreat.shrinkMoves
open Go.ChangeShapes Go.WideShapes Go.ChangeAt Go.RowKit
open Go.ChangeMaps (open_string shut_string)
set_option linter.unusedVariables false
theorem own:ownKnob Tryz.prog.godebug=none:=by kernel_rfl
theorem laidOut:laidOutB Tryz.prog=true:=by kernel_rfl
set_option maxRecDepth 100000 in
theorem lifted (os:Os) (started:os.Started) (H:Type) (enc:TypeId × Value→H) :
 ReturnsInHanded {} Tryz.checked os 3 .any (Rows.shrinkMovesSpec.pre6 enc Tryz.prog Tryz.f3 Rows.shrinkMovesRow.domain false) (Rows.shrinkMovesSpec.post enc Tryz.prog Tryz.f3 false true false false):=by
 refine returnsInHanded_of_change (C:=Tryz.checked) own started (by kernel_rfl) Tryz.func3
  (ChangeSpec.witness6 (enc:=enc) (C:=Tryz.checked) false ⟨#[],#[.agg #[.slice none 0 0,.slice none 0 0,.slice none 0 0,.slice none 0 0,.slice none 0 0,.slice none 0 0,.slice none 0 0,.slice none 0 0,.slice none 0 0,.slice none 0 0],.slice none 0 0,.agg #[.int .i64 0,.int .i64 0,.int .i64 0,.int .i64 0,.int .i64 0,.int .i64 0,.int .i64 0]],[]⟩ 8 (by kernel_rfl) (by kernel_rfl) (by kernel_rfl) (by kernel_rfl)) ?_
 intro W base args ds gs before hval0 hW hcnd _
 have hval:∀ (j:Nat) t v,Tryz.f3.params[j]?=some t→args[j]?=some v→Value.okWide Tryz.prog W .any base t v:=hval0
 have hW':=hW
 obtain⟨p,q,hA0,hV,rfl,hfz,hnd⟩:=hW
 have hA:DataW.TrodAll enc Tryz.prog W 0 (fun _=>true) true Tryz.f3.params.toList args.toList ds p:=hA0
 rw[Tryz.params3] at hA hval
 obtain⟨v0,vs0,d0,ds0,p0,q0,hargs,rfl,rfl,h0,r0⟩:=trodAll_cons hA
 obtain⟨v1,vs1,d1,ds1,p1,q1,rfl,rfl,rfl,h1,r1⟩:=trodAll_cons r0
 obtain⟨v2,vs2,d2,ds2,p2,q2,rfl,rfl,rfl,h2,r2⟩:=trodAll_cons r1
 obtain⟨rfl,rfl,rfl⟩:=trodAll_nil r2
 obtain rfl:args= #[v0,v1,v2]:=by cases args;simp_all
 obtain⟨rfl,rfl⟩:=trodVars_none hV
 obtain⟨xs0,rfl,hxs0⟩:=okWide_struct Tryz.underlying32 (hval 0 32 v0 rfl rfl)
 obtain⟨a1,len1,cap1,rfl⟩:=okWide_slice Tryz.underlying33 (hval 1 33 v1 rfl rfl)
 obtain⟨xs2,rfl,hxs2⟩:=okWide_struct Tryz.underlying37 (hval 2 37 v2 rfl rfl)
 have k0:=h0
 have lt0:∀ x ∈ p0,x.block < W.heap.size:=by obtain⟨m,hm⟩:=k0;exact DataW.trod_lt m _ _ _ hm
 have k1:=h1
 have lt1:∀ x ∈ p1,x.block < W.heap.size:=by obtain⟨m,hm⟩:=k1;exact DataW.trod_lt m _ _ _ hm
 have k2:=h2
 have lt2:∀ x ∈ p2,x.block < W.heap.size:=by obtain⟨m,hm⟩:=k2;exact DataW.trod_lt m _ _ _ hm
 obtain⟨M,q,hcs0,R0,N0⟩:∃ (M:Mdl) (q:Mem),xs0=mdC q M∧MdQ W q M∧MdN M:=by
  obtain⟨fuel,hf⟩:=h0
  exact arg_model hf
 subst hcs0
 obtain⟨L,hlen,R1,N1⟩:∃ L:List Mv,L.length=len1∧RowE moveE 3 W (.slice a1 len1 cap1) L∧∀ v ∈ L,∀ n ∈ v.vals,N64 n:=by
  obtain⟨fuel,hf⟩:=h1
  exact arg_moves hf
 subst hlen
 obtain⟨x,hcs2⟩:∃ x:Ins,xs2=insC x:=by
  obtain⟨fuel,hf⟩:=h2
  exact arg_inst hf
 subst hcs2
 clear hA0 hval0
 refine(lawMv_any R0 R1 N1 N0 x).mono fun e W' ⟨he,bel⟩ =>?_
 subst he
 exact⟨_,rfl,_,_,_,[],_,[],hW',trodAll_mk1 (shut_bool Tryz.underlying4 _),(trodAll_cons_mk (Below.trod laidOut (by kernel_rfl) (of_decide_eq_true (by kernel_rfl)) k0 bel lt0) (trodAll_cons_mk (Below.trod laidOut (by kernel_rfl) (of_decide_eq_true (by kernel_rfl)) k1 bel lt1) (trodAll_cons_mk (Below.trod laidOut (by kernel_rfl) (of_decide_eq_true (by kernel_rfl)) k2 bel lt2) trodAll_mk0))),rfl,bel.frame _,fun h=>by cases h⟩
theorem over:Rows.shrinkMovesRow.holds Tryz.pinned (OpenSpec.ofChange Rows.shrinkMovesSpec):=
 OpenClaim.holds_of_wide 3 Tryz.f3 rfl rfl rfl rfl rfl rfl rfl ⟨rfl,rfl,rfl,rfl,rfl⟩ rfl rfl rfl rfl rfl (by kernel_rfl) Tryz.func3 (by kernel_rfl)
  (of_decide_eq_true (by kernel_rfl)) (by unfold Func.isWrapper;first| (rw[if_pos (by decide +kernel)];kernel_rfl)| (rw[if_neg (by decide +kernel)];exact⟨rfl,rfl⟩))
  (fun os started H enc _=>lifted os started H enc)
theorem proved:Rows.ShrinkMovesSaid:=over
end Go.Proofs.YtadjnfpomjopkaaGreat.shrinkMoves
