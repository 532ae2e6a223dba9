import Derived.Test.YtadjnfpomjopkaaGreatSm38
namespace Go.Proofs.YtadjnfpomjopkaaGreat
open Go.RowKit
set_option maxRecDepth 100000 in
set_option maxHeartbeats 8000000 in
theorem rtakeQ {w:World} {q:Mem} {M:Mdl} {r:Stm} {s:Sta} (hm:MdQ w q M) (hs:StQ w r s) (hk2:SOK s) {v:Mv} {ad:Option Addr} {cp:Nat} (hv:RowE intE 1 w (.slice ad v.vals.length cp) v.vals) {k:Nat} (hk:v.event= (k:Int)) (hkl:k < M.events.length)
 (hL:s.vals.length≤1000000∧s.did.length=M.events.length∧s.cnt.length=M.events.length∧M.events.length≤1000000) (hvl:v.vals.length= (evG M k).sets.length) (hcn:0 < (evG M k).times→N64 (s.cnt.getD k 0+1)) :
 Calls Tryz.prog 54 #[.agg (mdC q M),.agg (stC r s),.agg #[.int .i64 v.event,.int .i64 v.user,.slice ad v.vals.length cp]] w (TkP w M s v):=by
 obtain⟨W1,W2,h1,h2,HB2,HM,HS,HF⟩:=boxMS hm hs
 obtain⟨W3,h3,hb3,x3⟩:=box1 W2 #[.int .i64 v.event,.int .i64 v.user,.slice ad v.vals.length cp] 58
 obtain⟨W4,h4,hb4,x4⟩:=box1 W3 #[.slice none 0 0,.int .i64 0,.int .i64 0,.slice none 0 0,.slice none 0 0] 44
 obtain⟨W5,h5,hb5,x5⟩:=box1 W4 #[.slice none 0 0,.int .i64 0,.int .i64 0,.slice none 0 0,.slice none 0 0] 44
 have hs4:W4.heap.size=W3.heap.size+1:=by rw[←h4];simp
 have hs5:W5.heap.size=W4.heap.size+1:=by rw[←h5];simp
 have hb34:=hb4.trans (hb5.mono hb4.size)
 have hb24:=hb3.trans (hb34.mono hb3.size)
 have hbw:=HB2.out.trans (hb24.mono HB2.out.size)
 obtain⟨x,hx⟩:∃ x,M.events[k]?=some x:=⟨_,List.getElem?_eq_getElem hkl⟩
 obtain⟨be,oe,cap5,ai,ki,hv5,hbl,hsr,-,-,-,a3,a4⟩:=eventRow hm.events hx
 simp only[Value.slice.injEq] at hv5
 have ha:=hv5.1
 have hvs:v.vals.length=x.sets.length:=by rw[hvl,evG_of hx]
 rw[←hvs] at a3 hsr
 have hb4w:w.heap.size≤W4.heap.size:=by have:=HB2.out.size;have:=hb3.size;have:=hb4.size;omega
 have HBw:Hid (∀ V,Below W4.heap.size W5 V→Below w.heap.size w V):=fun V hV=>hbw.trans (hV.mono hb4w)
 have hlo:Hid (∀ V,Below W4.heap.size W5 V→Below W2.heap.size W2 V):=fun V hV=>hb24.trans (hV.mono (by have:=hb3.size;have:=hb4.size;omega))
 have HSF:Hid (∀ V,Below W4.heap.size W5 V→MdB V w.heap.size q M∧StB V W1.heap.size r s∧(V.cell? ⟨W2.heap.size,0,none⟩ = some (.int .i64 v.event)∧V.cell? ⟨W2.heap.size,1,none⟩ = some (.int .i64 v.user)∧V.cell? ⟨W2.heap.size,2,none⟩ = some (.slice ad v.vals.length cp))∧(V.cell? ⟨be,oe+k * 5+3,none⟩ = some (.slice ai v.vals.length ki)∧V.cell? ⟨be,oe+k * 5+4,none⟩ = some (.int .i64 x.times))∧Blk V W3.heap.size #[.slice none 0 0,.int .i64 0,.int .i64 0,.slice none 0 0,.slice none 0 0] 44):=fun V hV=>by
  obtain⟨m1,m2⟩:=HF.out V (hlo.out V hV)
  have b3:Blk V W2.heap.size #[.int .i64 v.event,.int .i64 v.user,.slice ad v.vals.length cp] 58:=(x3.keep hb34).low hV (by have:=hb3.size;have:=x3.lt;omega)
  have b4:Blk V W3.heap.size #[.slice none 0 0,.int .i64 0,.int .i64 0,.slice none 0 0,.slice none 0 0] 44:=(x4.keep hb5).low hV (by omega)
  exact⟨m1,m2,⟨b3.cell rfl,b3.cell rfl,b3.cell rfl⟩,⟨((HBw.out V hV).cell (p:=⟨be,oe+k * 5+3,none⟩) hbl).trans a3,((HBw.out V hV).cell (p:=⟨be,oe+k * 5+4,none⟩) hbl).trans a4⟩,b4⟩
 have HF4:Hid (StB W4 W1.heap.size r s):=(HF.out W4 (hb3.trans (hb4.mono hb3.size))).2
 have HLB:Hid (W4.heap.size < W5.heap.size):=by unfold Hid;omega
 have HSZ:Hid (w.heap.size≤W3.heap.size∧W3.heap.size < W5.heap.size):=by have:=HB2.out.size;have:=hb3.size;unfold Hid;omega
 have HSV:Hid (∀ V,Below W4.heap.size W5 V→RowE intE 1 V (.slice r.a0 s.vals.length r.k0) s.vals∧RowE intE 1 V (.slice r.a3 s.did.length r.k3) s.did∧RowE intE 1 V (.slice r.a4 s.cnt.length r.k4) s.cnt):=fun V hV=>⟨(hs.below (HBw.out V hV)).vals,(hs.below (HBw.out V hV)).did,(hs.below (HBw.out V hV)).cnt⟩
 have HRS:Hid (∀ V,Below W4.heap.size W5 V→RowE intE 1 V (.slice ai v.vals.length ki) x.sets∧RowE intE 1 V (.slice ad v.vals.length cp) v.vals):=fun V hV=>⟨hsr.below intE_keep (HBw.out V hV),hv.below intE_keep (HBw.out V hV)⟩
 have HPU:Hid (∀ (z:Int),z ∈ s.did→∀ V,Calls Tryz.prog 63 #[.int .i64 z,.int .i64 v.user,.bool true] V fun e w'=>e=.returned (.int .i64 (putZ z v.user true))∧Below V.heap.size V w'):=fun z hz V=>put_any z v.user true V (hk2.did z hz).1 (hk2.did z hz).2
 have HE0:Hid ((takeS M s v).vals=setV x.sets v.vals s.vals):=by unfold Hid takeS;rw[hk,Int.toNat_natCast,evG_of hx]
 have HE3:Hid ((takeS M s v).did=s.did.set k (putZ (s.did.getD k 0) v.user true)):=by unfold Hid takeS;rw[hk,Int.toNat_natCast]
 have HE4:Hid ((takeS M s v).cnt=if 0 < x.times then s.cnt.set k (s.cnt.getD k 0+1) else s.cnt):=by unfold Hid takeS;rw[hk,Int.toNat_natCast,evG_of hx]
 have HCN:Hid (0 < x.times→N64 (s.cnt.getD k 0+1)):=by rw[evG_of hx] at hcn;exact hcn
 have HVS:=Lib.hid hvs
 have HLL:=Lib.hid hL
 have HAA:=Lib.hid ha
 have HEK:=Lib.hid hk
 have hvx:=hv.max
 have hsx:=hs.vals.max
 have hme:=ltI hkl
 have hk0: (0:Int)≤(k:Int):=Int.natCast_nonneg _
 have HX5:=Lib.hid x5
 have hl0:=hL.1
 have hl3:s.did.length≤1000000:=by have:=hL.2;omega
 have hl4:s.cnt.length≤1000000:=by have:=hL.2;omega
 clear hL
 unfold MdB StB at HSF
 unfold StB at HF4
 unfold mdC at h1 ⊢
 unfold stC at h2 ⊢
 rw[hk] at h3 ⊢
 rw[hk] at HSF
 rw[ha] at h1 HSF ⊢
 clear hm hs hk2 hv hk ha hx hvl hcn hb3 hb4 hb5 x3 x4 hs4 hs5 hb34 hb24 hbw hv5 hbl hsr a3 a4 hvs hb4w hlo HF HM HS
 obtain⟨d0,d1,d2,d3,d4⟩:=HF4.out
 have u0:=x5.cell (i:=0) rfl
 have t0:=x5.free 0
 have u1:=x5.cell (i:=1) rfl
 have t1:=x5.free 1
 have u2:=x5.cell (i:=2) rfl
 have t2:=x5.free 2
 have u3:=x5.cell (i:=3) rfl
 have t3:=x5.free 3
 have u4:=x5.cell (i:=4) rfl
 have t4:=x5.free 4
 clear x5
 obtain⟨L0,hL0⟩:∃ L,setV x.sets v.vals s.vals=L:=⟨_,rfl⟩
 have HL0:=Lib.hid hL0
 rw[hL0] at HE0
 clear hL0
 go_enter Tryz.func54,Tryz.ntmps54
 go_wp2
 have HT0:=Lib.hid ((Turned.refl HX5.out).put5 (.slice none 0 0) (.int .i64 s.opn) (.int .i64 s.dne) (.slice none 0 0) (.slice none 0 0))
 go_loopw [8] (fun jv wr=>∃ (j:Nat) (v0:Value),jv=.int .i64 (j:Int)∧j≤s.vals.length∧Hid (Turned W5 wr W4.heap.size #[v0,.int .i64 s.opn,.int .i64 s.dne,.slice none 0 0,.slice none 0 0] 44∧wr.ownsRow W5.heap.size 2 1 v0 j (ints (L0.take j)))) (fun jv _=>s.vals.length - (intOf jv).toNat)
 case atStart=>exact⟨0,.slice none 0 0,rfl,Nat.zero_le _,HT0.out,World.ownsRow_nil _ _ _ _⟩
 case round=>
  obtain⟨j,v0,rfl,hj,HT⟩:=hrel
  clear d0 d1 d2 d3 d4 u0 t0 u1 t1 u2 t2 u3 t3 u4 t4
  obtain⟨ad0,cap0,ev0⟩:=owns_len HT.out.2
  subst ev0
  have HBL:Hid (Below W4.heap.size W5 wr):=HT.out.1.2.1
  obtain⟨⟨c0,c1,c2,c3,c4,c5,c6,c7,c8,c9⟩,⟨d0,d1,d2,d3,d4⟩,⟨y0,y1,y2⟩,⟨a3,a4⟩,-⟩:=HSF.out _ HBL.out
  have u0:=HT.out.1.1.cell (i:=0) rfl
  have u1:=HT.out.1.1.cell (i:=1) rfl
  have u2:=HT.out.1.1.cell (i:=2) rfl
  have u3:=HT.out.1.1.cell (i:=3) rfl
  have u4:=HT.out.1.1.cell (i:=4) rfl
  rcases Nat.lt_or_ge j s.vals.length with hlt|hge
  · have hkz:=ltI hlt
    have hjx: (0:Int)≤(j:Int):=Int.natCast_nonneg _
    obtain⟨z,hz⟩:∃ z,s.vals[j]?=some z:=⟨_,List.getElem?_eq_getElem hlt⟩
    obtain⟨g1,o1,cp1,hv1,hl1,f1⟩:=(HSV.out _ HBL.out).1.int hz
    simp only[Value.slice.injEq] at hv1
    have hd1:=hv1.1
    have HAT:Hid (L0[j]?=some (atV (j:Int) x.sets v.vals z)):=by unfold Hid;rw[←HL0.out];exact setV_at _ _ _ hz
    have HO:=Lib.hid HT.out.2
    have HSB:Hid (W5.heap.size≤wr.heap.size):=HT.out.1.2.1.size
    obtain⟨wo,hwo⟩:∃ w',w'=wr:=⟨_,rfl⟩
    subst hwo
    clear hv1 hl1 hz
    go_wp2
    go_loopw [9,10] (fun cv kv wr=>∃ k2:Nat,kv=.int .i64 (k2:Int)∧k2≤v.vals.length∧Hid (wr=wo∧cv=.int .i64 (atV (j:Int) (x.sets.take k2) (v.vals.take k2) z))) (fun _ kv _=>v.vals.length - (intOf kv).toNat)
    case atStart=>exact⟨0,rfl,Nat.zero_le _,rfl,rfl⟩
    case round=>
     obtain⟨k2,rfl,hk2,HI⟩:=hrel
     obtain⟨hww,hcv⟩:=HI.out
     subst hcv
     subst hww
     clear HI
     rcases Nat.lt_or_ge k2 v.vals.length with hlt2|hge2
     · have hkz2:=ltI hlt2
       obtain⟨am,ham⟩:∃ z,x.sets[k2]?=some z:=⟨_,List.getElem?_eq_getElem (by rw[←HVS.out];exact hlt2)⟩
       obtain⟨nm,hnm⟩:∃ z,v.vals[k2]?=some z:=⟨_,List.getElem?_eq_getElem hlt2⟩
       have hrs:=(HRS.out _ HBL.out).1
       rw[HVS.out] at hrs
       obtain⟨g2,o2,cp2,hv2,hl2,f2⟩:=hrs.int ham
       obtain⟨g3,o3,cp3,hv3,hl3,f3⟩:=(HRS.out _ HBL.out).2.int hnm
       simp only[Value.slice.injEq] at hv2 hv3
       have hd2:=hv2.1
       have hd3:=hv3.1
       by_cases e:am= (j:Int)
       · have HN:Hid (atV (j:Int) (x.sets.take (k2+1)) (v.vals.take (k2+1)) z=nm):=by unfold Hid;rw[atV_step _ _ _ ham hnm,if_pos e]
         have bq: (am == (j:Int))=true:=by simp[e]
         clear e ham hnm hv2 hv3 hl2 hl3 hrs
         go_wp2
         (try rw[←hd1])
         (try rw[←hd2])
         (try rw[←hd3])
         go_roundw
         case rel=>exact⟨k2+1,by go_num,hlt2,by first|exact trivial|rfl,by rw[HN.out]⟩
         case measure=>simp[intOf];omega
       · have HN:Hid (atV (j:Int) (x.sets.take (k2+1)) (v.vals.take (k2+1)) z=atV (j:Int) (x.sets.take k2) (v.vals.take k2) z):=by unfold Hid;rw[atV_step _ _ _ ham hnm,if_neg e]
         have bq: (am == (j:Int))=false:=by simp[e]
         clear e ham hnm hv2 hv3 hl2 hl3 hrs
         go_wp2
         (try rw[←hd1])
         (try rw[←hd2])
         (try rw[←hd3])
         go_roundw
         case rel=>exact⟨k2+1,by go_num,hlt2,by first|exact trivial|rfl,by rw[HN.out]⟩
         case measure=>simp[intOf];omega
     · have hke:k2=v.vals.length:=by omega
       have hge2':=nltI (Nat.not_lt.2 hge2)
       obtain⟨c,hc⟩:∃ c,atV (j:Int) (x.sets.take k2) (v.vals.take k2) z=c:=⟨_,rfl⟩
       have HC:Hid (L0[j]?=some c):=by
        unfold Hid
        rw[HAT.out,←hc,hke,List.take_length,HVS.out,List.take_length]
       rw[hc]
       clear hc hke
       go_wp2_with (first
        | (at_builtin;refine app1 _ #[.int .i64 c] rfl _ _ 23 rfl W5.heap.size 2 (.int .i64 0) 1 8 Tryz.underlying23 info_int64 rfl (by decide) (by decide) _ _ _ rfl (by exact HO.out) rfl (by simp) rfl (by simp[Value.oneCell']) (by omega) HSB.out ?_;intro v5 w5 hown5 _ hbel
           obtain⟨ad5,cap5,e5⟩:=owns_len hown5
           subst e5
           have HT5:=Lib.hid (HT.out.1.under hbel HLB.out (Nat.le_refl _))
           have HO5:=Lib.hid hown5
           have z0:=HT5.out.1.cell (i:=0) rfl
           have z1:=HT5.out.1.free 0
           clear hown5 hbel)
        | fail)
       have HTN:Hid (Turned W5 (w5.setCell ⟨W4.heap.size,0,none⟩ (.slice ad5 (j+1) cap5)) W4.heap.size #[.slice ad5 (j+1) cap5,.int .i64 s.opn,.int .i64 s.dne,.slice none 0 0,.slice none 0 0] 44∧(w5.setCell ⟨W4.heap.size,0,none⟩ (.slice ad5 (j+1) cap5)).ownsRow W5.heap.size 2 1 (.slice ad5 (j+1) cap5) (j+1) (ints (L0.take (j+1)))):=⟨HT5.out.set0 _,by rw[ints_snoc HC.out];exact owns_set HO5.out HLB.out _⟩
       (try rw[←hd1])
       go_roundw
       case rel=>exact⟨j+1,by go_num,hlt,_,HTN.out⟩
       case measure=>simp[intOf];omega
  · have hje:j=s.vals.length:=by omega
    have hge':=nltI (Nat.not_lt.2 hge)
    have HL0n:Hid (L0.length=s.vals.length):=by unfold Hid;rw[←HL0.out,setV_len]
    have hjl:j=L0.length:=by rw[hje,HL0n.out]
    subst hjl
    obtain⟨adq,capq,eq0,hO0,hp0⟩:=ownEnd HT.out.2 rfl
    simp only[Value.slice.injEq] at eq0
    obtain⟨rfl,-,rfl⟩:=eq0
    have HA0:=Lib.hid hO0
    have HP0:=Lib.hid hp0
    obtain⟨W6,hW6⟩:∃ w',w'=wr:=⟨_,rfl⟩
    subst hW6
    have HT6:=Lib.hid HT.out.1
    have HLB6:Hid (W4.heap.size < W6.heap.size):=HT.out.1.1.lt
    obtain⟨L3,hL3⟩:∃ L,s.did.set k (putZ (s.did.getD k 0) v.user true)=L:=⟨_,rfl⟩
    have HL3:=Lib.hid hL3
    rw[hL3] at HE3
    clear hL3 hO0 hp0 hge hje HT
    go_wp2
    clear c0 c1 c2 c3 c4 c5 c6 c7 c8 c9 d0 d1 d2 d3 d4 y0 y1 y2 a3 a4 u0 u1 u2 u3 u4
    go_loopw [11] (fun jv wr=>∃ (j:Nat) (v3:Value),jv=.int .i64 (j:Int)∧j≤s.did.length∧Hid (Turned W6 wr W4.heap.size #[.slice ad0 L0.length cap0,.int .i64 s.opn,.int .i64 s.dne,v3,.slice none 0 0] 44∧wr.ownsRow W6.heap.size 3 1 v3 j (ints (L3.take j)))) (fun jv _=>s.did.length - (intOf jv).toNat)
    case atStart=>exact⟨0,.slice none 0 0,rfl,Nat.zero_le _,Turned.refl HT6.out.1,World.ownsRow_nil _ _ _ _⟩
    case round=>
     obtain⟨j,v3,rfl,hj,HT⟩:=hrel
     obtain⟨ad3,cap3,ev3⟩:=owns_len HT.out.2
     subst ev3
     have HBL:Hid (Below W4.heap.size W5 wr):=HT6.out.2.1.trans HT.out.1.2.1
     obtain⟨⟨c0,c1,c2,c3,c4,c5,c6,c7,c8,c9⟩,⟨d0,d1,d2,d3,d4⟩,⟨y0,y1,y2⟩,⟨a3,a4⟩,-⟩:=HSF.out _ HBL.out
     have u0:=HT.out.1.1.cell (i:=0) rfl
     have u1:=HT.out.1.1.cell (i:=1) rfl
     have u2:=HT.out.1.1.cell (i:=2) rfl
     have u3:=HT.out.1.1.cell (i:=3) rfl
     have u4:=HT.out.1.1.cell (i:=4) rfl
     rcases Nat.lt_or_ge j s.did.length with hlt|hge
     · have hkz:=ltI hlt
       have hjx: (0:Int)≤(j:Int):=Int.natCast_nonneg _
       obtain⟨z,hz⟩:∃ z,s.did[j]?=some z:=⟨_,List.getElem?_eq_getElem hlt⟩
       obtain⟨g1,o1,cp1,hv1,hl1,f1⟩:=(HSV.out _ HBL.out).2.1.int hz
       simp only[Value.slice.injEq] at hv1
       have hd1:=hv1.1
       by_cases e:j=k
       · subst e
         have HC:Hid (L3[j]?=some (putZ z v.user true)):=by
          unfold Hid
          rw[←HL3.out,List.getElem?_set,if_pos rfl,if_pos hlt,getD_of _ hz]
         have HPX:=Lib.hid (HPU.out z (List.mem_of_getElem? hz) wr)
         have bq: ((j:Int) == (j:Int))=true:=by simp
         obtain⟨c,hc⟩:∃ c,putZ z v.user true=c:=⟨_,rfl⟩
         rw[hc] at HC HPX
         clear hz hv1 hl1 hc
         go_wp2_with fail
         refine HPX.out.mono ?_
         rintro e8 W8 ⟨rfl,hb8⟩
         have HTc:=Lib.hid (HT.out.1.grow hb8)
         have HO:=Lib.hid (owns_below HT.out.2 hb8)
         have HSB:Hid (W6.heap.size≤W8.heap.size):=HTc.out.2.1.size
         clear u0 u1 u2 u3 u4 hb8 HPX
         have u0:=HTc.out.1.cell (i:=0) rfl
         have u1:=HTc.out.1.cell (i:=1) rfl
         have u2:=HTc.out.1.cell (i:=2) rfl
         have u3:=HTc.out.1.cell (i:=3) rfl
         have u4:=HTc.out.1.cell (i:=4) rfl
         go_wp2_with (first
          | (at_builtin;refine app1 _ #[.int .i64 c] rfl _ _ 42 rfl W6.heap.size 3 (.int .i64 0) 1 8 Tryz.underlying42 info_int rfl (by decide) (by decide) _ _ _ rfl (by exact HO.out) rfl (by simp) rfl (by simp[Value.oneCell']) (by omega) HSB.out ?_;intro v5 w5 hown5 _ hbel
             obtain⟨ad5,cap5,e5⟩:=owns_len hown5
             subst e5
             have HT5:=Lib.hid (HTc.out.under hbel HLB6.out (Nat.le_refl _))
             have HO5:=Lib.hid hown5
             have z0:=HT5.out.1.cell (i:=3) rfl
             have z1:=HT5.out.1.free 3
             clear hown5 hbel)
          | fail)
         have HTN:Hid (Turned W6 (w5.setCell ⟨W4.heap.size,3,none⟩ (.slice ad5 (j+1) cap5)) W4.heap.size #[.slice ad0 L0.length cap0,.int .i64 s.opn,.int .i64 s.dne,.slice ad5 (j+1) cap5,.slice none 0 0] 44∧(w5.setCell ⟨W4.heap.size,3,none⟩ (.slice ad5 (j+1) cap5)).ownsRow W6.heap.size 3 1 (.slice ad5 (j+1) cap5) (j+1) (ints (L3.take (j+1)))):=⟨HT5.out.set3 _,by rw[ints_snoc HC.out];exact owns_set HO5.out HLB6.out _⟩
         (try rw[←hd1])
         go_roundw
         case rel=>exact⟨j+1,by go_num,hlt,_,HTN.out⟩
         case measure=>simp[intOf];omega
       · have HC:Hid (L3[j]?=some z):=by
          unfold Hid
          rw[←HL3.out,List.getElem?_set,if_neg (Ne.symm e),hz]
         have bq: ((j:Int) == (k:Int))=false:=by rw[beq_eq_false_iff_ne];omega
         have HTc:=Lib.hid HT.out.1
         have HO:=Lib.hid HT.out.2
         have HSB:Hid (W6.heap.size≤wr.heap.size):=HTc.out.2.1.size
         clear hz hv1 hl1 e
         go_wp2_with (first
          | (at_builtin;refine app1 _ #[.int .i64 z] rfl _ _ 42 rfl W6.heap.size 3 (.int .i64 0) 1 8 Tryz.underlying42 info_int rfl (by decide) (by decide) _ _ _ rfl (by exact HO.out) rfl (by simp) rfl (by simp[Value.oneCell']) (by omega) HSB.out ?_;intro v5 w5 hown5 _ hbel
             obtain⟨ad5,cap5,e5⟩:=owns_len hown5
             subst e5
             have HT5:=Lib.hid (HTc.out.under hbel HLB6.out (Nat.le_refl _))
             have HO5:=Lib.hid hown5
             have z0:=HT5.out.1.cell (i:=3) rfl
             have z1:=HT5.out.1.free 3
             clear hown5 hbel)
          | fail)
         have HTN:Hid (Turned W6 (w5.setCell ⟨W4.heap.size,3,none⟩ (.slice ad5 (j+1) cap5)) W4.heap.size #[.slice ad0 L0.length cap0,.int .i64 s.opn,.int .i64 s.dne,.slice ad5 (j+1) cap5,.slice none 0 0] 44∧(w5.setCell ⟨W4.heap.size,3,none⟩ (.slice ad5 (j+1) cap5)).ownsRow W6.heap.size 3 1 (.slice ad5 (j+1) cap5) (j+1) (ints (L3.take (j+1)))):=⟨HT5.out.set3 _,by rw[ints_snoc HC.out];exact owns_set HO5.out HLB6.out _⟩
         (try rw[←hd1])
         go_roundw
         case rel=>exact⟨j+1,by go_num,hlt,_,HTN.out⟩
         case measure=>simp[intOf];omega
     · have hje:j=s.did.length:=by omega
       have hge':=nltI (Nat.not_lt.2 hge)
       have hjl:j=L3.length:=by rw[hje,←HL3.out,List.length_set]
       subst hjl
       obtain⟨adq,capq,eq0,hO0,hp0⟩:=ownEnd HT.out.2 rfl
       simp only[Value.slice.injEq] at eq0
       obtain⟨rfl,-,rfl⟩:=eq0
       have HA3:=Lib.hid hO0
       have HP3:=Lib.hid hp0
       obtain⟨W7,hW7⟩:∃ w',w'=wr:=⟨_,rfl⟩
       subst hW7
       have HT7:=Lib.hid HT.out.1
       have HBL7:=Lib.hid HBL.out
       obtain⟨L4,hL4⟩:∃ L,(if 0 < x.times then s.cnt.set k (s.cnt.getD k 0+1) else s.cnt)=L:=⟨_,rfl⟩
       have HL4:=Lib.hid hL4
       rw[hL4] at HE4
       clear hL4 hO0 hp0 hge hje HT HBL
       go_wp2
       clear c0 c1 c2 c3 c4 c5 c6 c7 c8 c9 d0 d1 d2 d3 d4 y0 y1 y2 a3 a4 u0 u1 u2 u3 u4
       go_loopw [13] (fun jv wr=>∃ (j:Nat) (v4:Value),jv=.int .i64 (j:Int)∧j≤s.cnt.length∧Hid (Turned W7 wr W4.heap.size #[.slice ad0 L0.length cap0,.int .i64 s.opn,.int .i64 s.dne,.slice ad3 L3.length cap3,v4] 44∧wr.ownsRow W7.heap.size 3 1 v4 j (ints (L4.take j)))) (fun jv _=>s.cnt.length - (intOf jv).toNat)
       case atStart=>exact⟨0,.slice none 0 0,rfl,Nat.zero_le _,Turned.refl HT7.out.1,World.ownsRow_nil _ _ _ _⟩
       case round=>
        obtain⟨j,v4,rfl,hj,HT⟩:=hrel
        obtain⟨ad4,cap4,ev4⟩:=owns_len HT.out.2
        subst ev4
        have HLB7:Hid (W4.heap.size < W7.heap.size):=HT7.out.1.lt
        have HBL:Hid (Below W4.heap.size W5 wr):=HBL7.out.trans HT.out.1.2.1
        obtain⟨⟨c0,c1,c2,c3,c4,c5,c6,c7,c8,c9⟩,⟨d0,d1,d2,d3,d4⟩,⟨y0,y1,y2⟩,⟨a3,a4⟩,-⟩:=HSF.out _ HBL.out
        have u0:=HT.out.1.1.cell (i:=0) rfl
        have u1:=HT.out.1.1.cell (i:=1) rfl
        have u2:=HT.out.1.1.cell (i:=2) rfl
        have u3:=HT.out.1.1.cell (i:=3) rfl
        have u4:=HT.out.1.1.cell (i:=4) rfl
        rcases Nat.lt_or_ge j s.cnt.length with hlt|hge
        · have hkz:=ltI hlt
          have hjx: (0:Int)≤(j:Int):=Int.natCast_nonneg _
          obtain⟨z,hz⟩:∃ z,s.cnt[j]?=some z:=⟨_,List.getElem?_eq_getElem hlt⟩
          obtain⟨g1,o1,cp1,hv1,hl1,f1⟩:=(HSV.out _ HBL.out).2.2.int hz
          simp only[Value.slice.injEq] at hv1
          have hd1:=hv1.1
          have HTc:=Lib.hid HT.out.1
          have HO:=Lib.hid HT.out.2
          have HSB:Hid (W7.heap.size≤wr.heap.size):=HTc.out.2.1.size
          by_cases e:j=k
          · subst e
            have bq: ((j:Int) == (j:Int))=true:=by simp
            by_cases ht:0 < x.times
            · have HC:Hid (L4[j]?=some (z+1)):=by
               unfold Hid
               rw[←HL4.out,if_pos ht,List.getElem?_set,if_pos rfl,if_pos hlt,getD_of _ hz]
              have hn:=HCN.out ht
              rw[getD_of _ hz] at hn
              have hw2:IntKind.i64.wrap (z+1)=z+1:=IntWalk.i64_in _ hn
              have hw1:wrap64 (z+1)=z+1:=by unfold N64 at hn;unfold wrap64;omega
              clear hz hv1 hl1 hn
              go_wp2_with (first
               | (at_builtin;refine app1 _ #[.int .i64 (z+1)] rfl _ _ 42 rfl W7.heap.size 3 (.int .i64 0) 1 8 Tryz.underlying42 info_int rfl (by decide) (by decide) _ _ _ rfl (by exact HO.out) rfl (by simp) rfl (by simp[Value.oneCell']) (by omega) HSB.out ?_;intro v5 w5 hown5 _ hbel
                  obtain⟨ad5,cap5,e5⟩:=owns_len hown5
                  subst e5
                  have HT5:=Lib.hid (HTc.out.under hbel HLB7.out (Nat.le_refl _))
                  have HO5:=Lib.hid hown5
                  have z0:=HT5.out.1.cell (i:=4) rfl
                  have z1:=HT5.out.1.free 4
                  clear hown5 hbel)
               | fail)
              have HTN:Hid (Turned W7 (w5.setCell ⟨W4.heap.size,4,none⟩ (.slice ad5 (j+1) cap5)) W4.heap.size #[.slice ad0 L0.length cap0,.int .i64 s.opn,.int .i64 s.dne,.slice ad3 L3.length cap3,.slice ad5 (j+1) cap5] 44∧(w5.setCell ⟨W4.heap.size,4,none⟩ (.slice ad5 (j+1) cap5)).ownsRow W7.heap.size 3 1 (.slice ad5 (j+1) cap5) (j+1) (ints (L4.take (j+1)))):=⟨HT5.out.set4 _,by rw[ints_snoc HC.out];exact owns_set HO5.out HLB7.out _⟩
              (try rw[←hd1])
              go_roundw
              case rel=>exact⟨j+1,by go_num,hlt,_,HTN.out⟩
              case measure=>simp[intOf];omega
            · have HC:Hid (L4[j]?=some z):=by
               unfold Hid
               rw[←HL4.out,if_neg ht,hz]
              clear hz hv1 hl1
              go_wp2_with (first
               | (at_builtin;refine app1 _ #[.int .i64 z] rfl _ _ 42 rfl W7.heap.size 3 (.int .i64 0) 1 8 Tryz.underlying42 info_int rfl (by decide) (by decide) _ _ _ rfl (by exact HO.out) rfl (by simp) rfl (by simp[Value.oneCell']) (by omega) HSB.out ?_;intro v5 w5 hown5 _ hbel
                  obtain⟨ad5,cap5,e5⟩:=owns_len hown5
                  subst e5
                  have HT5:=Lib.hid (HTc.out.under hbel HLB7.out (Nat.le_refl _))
                  have HO5:=Lib.hid hown5
                  have z0:=HT5.out.1.cell (i:=4) rfl
                  have z1:=HT5.out.1.free 4
                  clear hown5 hbel)
               | fail)
              have HTN:Hid (Turned W7 (w5.setCell ⟨W4.heap.size,4,none⟩ (.slice ad5 (j+1) cap5)) W4.heap.size #[.slice ad0 L0.length cap0,.int .i64 s.opn,.int .i64 s.dne,.slice ad3 L3.length cap3,.slice ad5 (j+1) cap5] 44∧(w5.setCell ⟨W4.heap.size,4,none⟩ (.slice ad5 (j+1) cap5)).ownsRow W7.heap.size 3 1 (.slice ad5 (j+1) cap5) (j+1) (ints (L4.take (j+1)))):=⟨HT5.out.set4 _,by rw[ints_snoc HC.out];exact owns_set HO5.out HLB7.out _⟩
              (try rw[←hd1])
              go_roundw
              case rel=>exact⟨j+1,by go_num,hlt,_,HTN.out⟩
              case measure=>simp[intOf];omega
          · have HC:Hid (L4[j]?=some z):=by
             unfold Hid
             rw[←HL4.out]
             split
             · rw[List.getElem?_set,if_neg (Ne.symm e),hz]
             · exact hz
            have bq: ((j:Int) == (k:Int))=false:=by rw[beq_eq_false_iff_ne];omega
            clear hz hv1 hl1 e
            go_wp2_with (first
             | (at_builtin;refine app1 _ #[.int .i64 z] rfl _ _ 42 rfl W7.heap.size 3 (.int .i64 0) 1 8 Tryz.underlying42 info_int rfl (by decide) (by decide) _ _ _ rfl (by exact HO.out) rfl (by simp) rfl (by simp[Value.oneCell']) (by omega) HSB.out ?_;intro v5 w5 hown5 _ hbel
                obtain⟨ad5,cap5,e5⟩:=owns_len hown5
                subst e5
                have HT5:=Lib.hid (HTc.out.under hbel HLB7.out (Nat.le_refl _))
                have HO5:=Lib.hid hown5
                have z0:=HT5.out.1.cell (i:=4) rfl
                have z1:=HT5.out.1.free 4
                clear hown5 hbel)
             | fail)
            have HTN:Hid (Turned W7 (w5.setCell ⟨W4.heap.size,4,none⟩ (.slice ad5 (j+1) cap5)) W4.heap.size #[.slice ad0 L0.length cap0,.int .i64 s.opn,.int .i64 s.dne,.slice ad3 L3.length cap3,.slice ad5 (j+1) cap5] 44∧(w5.setCell ⟨W4.heap.size,4,none⟩ (.slice ad5 (j+1) cap5)).ownsRow W7.heap.size 3 1 (.slice ad5 (j+1) cap5) (j+1) (ints (L4.take (j+1)))):=⟨HT5.out.set4 _,by rw[ints_snoc HC.out];exact owns_set HO5.out HLB7.out _⟩
            (try rw[←hd1])
            go_roundw
            case rel=>exact⟨j+1,by go_num,hlt,_,HTN.out⟩
            case measure=>simp[intOf];omega
        · have hje:j=s.cnt.length:=by omega
          have hge':=nltI (Nat.not_lt.2 hge)
          have hjl:j=L4.length:=by rw[hje,←HL4.out];split <;> simp
          subst hjl
          obtain⟨adq,capq,eq0,hO0,hp0⟩:=ownEnd HT.out.2 rfl
          simp only[Value.slice.injEq] at eq0
          obtain⟨rfl,-,rfl⟩:=eq0
          have HA4:=Lib.hid hO0
          have HP4:=Lib.hid hp0
          have HZ:=Lib.hid (HSF.out _ HBL.out).2.2.2.2
          have HF0:Hid (OwnI wr W5.heap.size ad0 2 L0):=(HA0.out.turn HT7.out HLB.out).turn HT.out.1 HLB.out
          have HF3:Hid (OwnI wr W6.heap.size ad3 3 L3):=HA3.out.turn HT.out.1 HLB6.out
          have HSS:Hid (W5.heap.size≤W6.heap.size∧W5.heap.size≤W7.heap.size):=⟨HT6.out.2.1.size,HBL7.out.size⟩
          have HLO:Hid (Below w.heap.size w wr):=HBw.out _ HBL.out
          have z0:=HZ.out.cell (i:=0) rfl
          have t0:=HZ.out.free 0
          have z1:=HZ.out.cell (i:=1) rfl
          have t1:=HZ.out.free 1
          have z2:=HZ.out.cell (i:=2) rfl
          have t2:=HZ.out.free 2
          have z3:=HZ.out.cell (i:=3) rfl
          have t3:=HZ.out.free 3
          have z4:=HZ.out.cell (i:=4) rfl
          have t4:=HZ.out.free 4
          clear hO0 hp0 hge hje
          go_wp2
          have hp:=HZ.out.put5 (.slice ad0 L0.length cap0) (.int .i64 s.opn) (.int .i64 s.dne) (.slice ad3 L3.length cap3) (.slice ad4 L4.length cap4)
          have hT:=(Turned.refl HZ.out).put5 (.slice ad0 L0.length cap0) (.int .i64 s.opn) (.int .i64 s.dne) (.slice ad3 L3.length cap3) (.slice ad4 L4.length cap4)
          refine bodyPost_ret (v:=.agg #[.slice ad0 L0.length cap0,.int .i64 s.opn,.int .i64 s.dne,.slice ad3 L3.length cap3,.slice ad4 L4.length cap4]) (st_results hp rfl Tryz.f54 rfl) rfl ?_
          exact rtake_end HE0.out HE3.out HE4.out HSZ.out.1 HSZ.out.2 HSS.out.1 HSS.out.2 hT HF0.out HF3.out HA4.out HP0.out HP3.out HP4.out (HLO.out.trans (hT.2.1.mono HSZ.out.1))
end Go.Proofs.YtadjnfpomjopkaaGreat
