import Derived.Test.YtkkoooagamadjaaGreatDoorPk45
namespace Go.Proofs.YtkkoooagamadjaaGreatDoor
open Go.RowKit Go.Shelf
theorem at_first (a:Int) (cl:List (Int × Int)) (k:Nat) (x:Int × Int) (hx:cl[k]?=some x) (h:∀ y ∈ cl.take k,hasB y.1 a=false) (hb:hasB x.1 a=true):atZ a cl=k:=by
 obtain⟨hk,e⟩:=List.getElem?_eq_some_iff.1 hx
 have hs:cl=cl.take k ++x :: cl.drop (k+1):=by
  conv=>lhs;rw[←List.take_append_drop k cl,List.drop_eq_getElem_cons hk,e]
 conv=>lhs;rw[hs]
 rw[atZ_split a _ _ x h hb,List.length_take];omega
set_option maxRecDepth 100000 in
set_option maxHeartbeats 4000000 in
theorem rnumber_any {w:World} {v1 v2 vv cv:Value} {z:Zn} {a r:Int} {vals consts:List Int} (hz:ZoneIn w v1 v2 z.1 z.2) (hvv:RdK w 1 vv vals.length (ints vals)) (hcv:Reads w cv (ints consts)) (hok:∀ c ∈ z.1,ClsOK c) (hc:consts.length≤12) (hv:vals.length≤1000) (hcl:z.1.length≤1000)
 (hI:∀ x ∈ vals ++consts,In64 x) (hG:∀ g ∈ z.2,0≤g∧g≤1099511627776) :
 Calls Tryz.prog 41 #[.agg #[v1,v2],.int .i64 a,vv,cv,.int .i64 r] w fun e w'=>e=.returned (besV (numZ z a vals (sortS consts) r))∧Below w.heap.size w w':=by
 obtain⟨cl,gl⟩:=z
 dsimp only at hz hcl hG hok
 obtain⟨ad1,k1,rfl⟩:=hz.1.len
 obtain⟨ad2,k2,rfl⟩:=hz.2.len
 obtain⟨ad3,k3,rfl⟩:=hvv.len
 obtain⟨ad4,k4,rfl,-⟩:=hcv.len
 obtain⟨n,hn⟩:∃ n,cl.length=n:=⟨_,rfl⟩
 obtain⟨m,hm⟩:∃ m,gl.length=m:=⟨_,rfl⟩
 obtain⟨m3,hm3⟩:∃ m,vals.length=m:=⟨_,rfl⟩
 obtain⟨m4,hm4⟩:∃ m,(ints consts).length=m:=⟨_,rfl⟩
 rw[hm4] at hcv
 obtain⟨W1,hW1⟩:∃ W1,w.alloc (.cells #[.slice ad1 n k1,.slice ad2 m k2] 28)=W1:=⟨_,rfl⟩
 have hb1:Below w.heap.size w W1:=by rw[←hW1];exact(Below.refl _ _).alloc (Nat.le_refl _) _
 have x1:Blk W1 w.heap.size #[.slice ad1 n k1,.slice ad2 m k2] 28:=by rw[←hW1];exact Blk.new _ _ _
 have HB1:=Lib.hid hb1;have HX:=Lib.hid x1
 have HZ:Hid (ZoneIn w (.slice ad1 n k1) (.slice ad2 m k2) cl gl):=⟨by rw[←hn];exact hz.1,by rw[←hm];exact hz.2⟩
 have HVV:Hid (RdK w 1 (.slice ad3 m3 k3) vals.length (ints vals)):=by unfold Hid;rw[←hm3];exact hvv
 have HCV:=Lib.hid hcv
 have HFR:Hid (∀ W i d,Below w.heap.size w W→i < cl.length→In64 d→Calls Tryz.prog 74 #[.agg #[.slice ad1 n k1,.slice ad2 m k2],.int .i64 (i:Nat),.int .i64 a,.int .i64 d,.slice ad3 m3 k3,.slice ad4 m4 k4] W fun e w'=>e=.returned (besV (besN (numC cl i a vals (sortS consts)) d))∧Below W.heap.size W w'):=
  fun W i d hW hi hd=>rfrom_any a (HZ.out.below hW) (HVV.out.below hW) (HCV.out.below (Nat.le_refl _) hW) hok hc hv i hi hcl hI d hd
 have HI:Hid (∀ i y,numC cl i a vals (sortS consts)=some y→In64 y):=by
  intro i y hy
  unfold numC at hy
  split at hy
  · exact hI y (List.mem_append_right _ (((sortS_ok consts).2 y).1 (List.mem_of_getElem? hy)))
  · cases hh: (othL (cl.getD i (0,-1)).1 a).head? with
    | none=>rw[hh] at hy;cases hy
    | some b=>rw[hh] at hy;exact hI y (List.mem_append_left _ (List.mem_of_getElem? hy))
 have HN:=Lib.hid hn;have HM:=Lib.hid hm
 have HG:=Lib.hid hG;have HOK:=Lib.hid hok
 have HCL:=Lib.hid hcl
 rw[hn] at hcl ⊢
 rw[hm,hm3,hm4]
 clear hz hvv hcv hb1 x1 hm hm3 hm4 hn hI hG hok
 go_enter Tryz.func41,Tryz.ntmps41
 go_wp2_with fail
 clear hW1
 go_loopw [12] (fun i' wr=>∃ t:Nat,t≤n∧i'=.int .i64 t∧Hid (Below W1.heap.size W1 wr)∧Hid (∀ y ∈ cl.take t,hasB y.1 a=false)) (fun i' _=>n - (intOf i').toNat)
 case atStart=>exact⟨0,by omega,rfl,Below.refl _ _,fun y h=>by simp at h⟩
 case round=>
  obtain⟨t,ht,rfl,HBR,HF⟩:=hrel
  have s0:=(HX.out.keep HBR.out).two.1
  have s1:=(HX.out.keep HBR.out).two.2
  have hbr:=HB1.out.trans (HBR.out.mono HB1.out.size)
  have HB:=Lib.hid hbr
  by_cases hlt:t < n
  · have hlt1: (t:Int) < (n:Int):=by omega
    have hlt2:¬(t:Int)= (n:Int):=by omega
    have htl:t < cl.length:=by rw[HN.out];exact hlt
    obtain⟨xy,hxy⟩:∃ xy,cl[t]?=some xy:=⟨_,List.getElem?_eq_getElem htl⟩
    obtain⟨x,y⟩:=xy
    obtain⟨⟨hx0,hx1⟩,-⟩:=HOK.out (x,y) (List.mem_of_getElem? hxy)
    dsimp only at hx0 hx1
    have hzr:=(HZ.out.below hbr).1
    rw[HN.out] at hzr
    obtain⟨b,off,rfl,hbl,d0,d1⟩:=hzr.cls hxy (by omega)
    have HHA:=Lib.hid (rhas_any x a wr hx0 hx1)
    have hgd:cl.getD t (0,-1)= (x,y):=by rw[List.getD_eq_getElem?_getD,hxy];rfl
    obtain⟨q,hq⟩:∃ q,hasB x a=q:=⟨_,rfl⟩
    rw[hq] at HHA
    cases q
    · have HF2:Hid (∀ z ∈ cl.take (t+1),hasB z.1 a=false):=by
       intro z hz
       obtain⟨h1,h2⟩:=List.getElem?_eq_some_iff.1 hxy
       rw[List.take_succ_eq_append_getElem h1,h2,List.mem_append,List.mem_singleton] at hz
       rcases hz with hz|rfl
       · exact HF.out z hz
       · exact hq
      clear hzr hxy hq hgd hbr htl
      go_wp2_with fail
      refine HHA.out.mono ?_
      rintro e w5 ⟨rfl,rfl⟩
      go_wp2_with fail
      go_roundw
      case rel=>exact⟨t+1,by omega,by go_num,HBR,HF2⟩
      case measure=>simp[intOf];omega
    · have hat:=at_first a cl t (x,y) hxy HF.out hq
      have HU:Hid (numZ (cl,gl) a vals (sortS consts) r=numF cl gl t a (kap r) vals (sortS consts)):=by
       have:=numZ_F (cl,gl) a vals (sortS consts) r (by dsimp only;rw[hat];exact htl)
       dsimp only at this
       rw[hat] at this
       exact this
      have hsh:sharC cl t a=!(aloneC x y a):=by unfold sharC aloneC;rw[hgd];simp
      have HAL:=Lib.hid (ralone_any (W:=wr) x y a ⟨hx0,hx1⟩)
      obtain⟨N1,hN1⟩:∃ N1:Nat,n=N1+1:=⟨n - 1,by omega⟩
      have HTL:=Lib.hid htl
      have hw1:IntKind.i64.wrap ((n:Int) - 1)= (N1:Int):=by rw[show(n:Int) - 1= (N1:Int) by omega];exact IntWalk.i64_in _ ⟨by omega,by omega⟩
      have hw1b:wrap64 ((n:Int) - 1)= (N1:Int):=by unfold wrap64;omega
      have hnz: (n:Int) - 1= (N1:Int):=by omega
      cases hal:aloneC x y a with
      | false=>
        rw[hal] at HAL hsh
        have HFR0:=Lib.hid (fun W hW=>HFR.out W t 0 hW htl ⟨by omega,by omega⟩)
        have HV:Hid (numZ (cl,gl) a vals (sortS consts) r=besN (numC cl t a vals (sortS consts)) 0):=by
         unfold Hid
         rw[HU.out]
         unfold numF
         rw[hsh,if_pos (by rfl)]
         cases ho:numC cl t a vals (sortS consts) with
         | none=>rfl
         | some u=>
           unfold besN
           dsimp only
           have hu:In64 u:=HI.out t u ho
           unfold In64 at hu
           rw[if_pos (by omega),Int.add_zero]
        clear hzr hxy hq hgd hbr htl hat hsh hal hN1
        go_wp2_with fail
        refine HHA.out.mono ?_
        rintro e w5 ⟨rfl,rfl⟩
        go_wp2_with fail
        refine HAL.out.mono ?_
        rintro e w6 ⟨rfl,hb6⟩
        have e0:=((HX.out.keep HBR.out).keep hb6).two.1
        have e1:=((HX.out.keep HBR.out).keep hb6).two.2
        have HB6:=Lib.hid (HB.out.trans (hb6.mono HB.out.size))
        clear hb6 s0 s1
        go_wp2_with fail
        refine(HFR0.out _ HB6.out).mono ?_
        rintro e w7 ⟨rfl,hb7⟩
        have HB7:=Lib.hid (HB6.out.trans (hb7.mono HB6.out.size))
        unfold besV
        clear hb7
        go_wp2_with fail
        go_ret2
        rw[HV.out]
        exact⟨rfl,HB7.out⟩
      | true=>
        rw[hal] at HAL hsh
        have hsh:sharC cl t a=false:=hsh
        by_cases h1:n=1
        · have HV:Hid (numZ (cl,gl) a vals (sortS consts) r= (0,0)):=by
           unfold Hid;rw[HU.out];unfold numF;rw[hsh,if_neg (by simp),if_pos (by rw[HN.out];exact h1)]
          have h1': (n:Int)=1:=by omega
          clear hzr hxy hq hgd hbr htl hat hsh hal hN1
          go_wp2_with fail
          refine HHA.out.mono ?_
          rintro e w5 ⟨rfl,rfl⟩
          go_wp2_with fail
          refine HAL.out.mono ?_
          rintro e w6 ⟨rfl,hb6⟩
          have e0:=((HX.out.keep HBR.out).keep hb6).two.1
          have e1:=((HX.out.keep HBR.out).keep hb6).two.2
          have HB6:=Lib.hid (HB.out.trans (hb6.mono HB.out.size))
          clear hb6 s0 s1
          go_wp2_with fail
          go_ret2
          rw[HV.out]
          exact⟨rfl,HB6.out⟩
        · have h1':¬(n:Int)=1:=by omega
          by_cases h2:m=N1
          · have h2': (m:Int)= (N1:Int):=by omega
            have HU0:Hid (numZ (cl,gl) a vals (sortS consts) r=if t=0∨(t < cl.length - 1∧gl.getD (t - 1) 0=kap r∧gl.getD t 0≠kap r) then besN (numC cl (t+1) a vals (sortS consts)) (-(gl.getD t 0) - 1) else besN (numC cl (t - 1) a vals (sortS consts)) (gl.getD (t - 1) 0+1)):=by
             unfold Hid;rw[HU.out];unfold numF;rw[hsh,if_neg (by simp),if_neg (by rw[HN.out];omega),if_neg (by rw[HN.out,HM.out];omega)]
            obtain⟨K,hK⟩:∃ K:Int,(kap r:Int)=K:=⟨_,rfl⟩
            have HCP:Hid (∀ W,Calls Tryz.prog 33 #[.int .i64 r] W fun e w'=>e=.returned (.int .i64 K)∧W=w'):=fun W=>by rw[←hK];exact rcap_any r W
            rw[hK] at HU0
            have hgat:∀ j,j < N1→∃ g,gl[j]?=some g∧gl.getD j 0=g∧0≤g∧g≤1099511627776:=by
             intro j hj
             have hjl:j < gl.length:=by rw[HM.out];omega
             exact⟨gl[j],List.getElem?_eq_getElem hjl,by rw[List.getD_eq_getElem?_getD,List.getElem?_eq_getElem hjl];rfl,(HG.out _ (List.getElem_mem hjl)).1,(HG.out _ (List.getElem_mem hjl)).2⟩
            have hz2:=(HZ.out.below hbr).2
            rw[HM.out] at hz2
            obtain⟨b2,o2,rfl,hbl2,hcell⟩:=hz2.at (by omega)
            subst h2
            have htm:t≤m:=by omega
            by_cases hi0:t=0
            · subst hi0
              obtain⟨g,hg1,hg2,hg3,hg4⟩:=hgat 0 (by omega)
              have HV:Hid (numZ (cl,gl) a vals (sortS consts) r=besN (numC cl 1 a vals (sortS consts)) (-g - 1)):=by
               unfold Hid;rw[HU0.out,if_pos (.inl rfl),hg2]
              have hcell0:wr.cell? ⟨b2,o2,none⟩ = some (.int .i64 g):=hcell 0 _ (by unfold ints;rw[List.getElem?_map,hg1];rfl)
              have hm1: (0:Int) < (m:Int):=by omega
              have hm1n:0 < m:=by omega
              have hw11:IntKind.i64.wrap 1=1:=by decide
              have d0z:wr.cell? ⟨b,off,none⟩ = some (.int .i64 x):=by simpa using d0
              have d1z:wr.cell? ⟨b,off+1,none⟩ = some (.int .i64 y):=by simpa using d1
              have hwn:IntKind.i64.wrap (-g)= -g:=IntWalk.i64_in _ ⟨by omega,by omega⟩
              have hwd:IntKind.i64.wrap (-g - 1)= -g - 1:=IntWalk.i64_in _ ⟨by omega,by omega⟩
              have HC0:=Lib.hid hcell0
              have HFR1:Hid (∀ W,Below w.heap.size w W→Calls Tryz.prog 74 #[.agg #[.slice (some ⟨b,off,none⟩) n k1,.slice (some ⟨b2,o2,none⟩) m k2],.int .i64 1,.int .i64 a,.int .i64 (-g - 1),.slice ad3 m3 k3,.slice ad4 m4 k4] W fun e w'=>e=.returned (besV (besN (numC cl 1 a vals (sortS consts)) (-g - 1)))∧Below W.heap.size W w'):=
               fun W hW=>HFR.out W 1 (-g - 1) hW (by rw[HN.out];omega) ⟨by omega,by omega⟩
              clear hgat hcell HU0 hN1 hcell0 hzr hxy hq hgd hbr htl hat hsh hal hz2 hK
              go_wp2_with fail
              refine HHA.out.mono ?_
              rintro e w5 ⟨rfl,rfl⟩
              go_wp2_with fail
              refine HAL.out.mono ?_
              rintro e w6 ⟨rfl,hb6⟩
              have e0:=((HX.out.keep HBR.out).keep hb6).two.1
              have e1:=((HX.out.keep HBR.out).keep hb6).two.2
              have HBW6:=Lib.hid (Nat.lt_of_lt_of_le hbl2 hb6.size)
              have HXL:=Lib.hid ((HX.out.keep HBR.out).keep hb6).lt
              have f0:w6.cell? ⟨b2,o2,none⟩ = some (.int .i64 g):=(hb6.cell (p:=⟨b2,o2,none⟩) hbl2).trans HC0.out
              have HB6:=Lib.hid (HB.out.trans (hb6.mono HB.out.size))
              clear hb6 s0 s1
              go_wp2_with fail
              refine(HCP.out _).mono ?_
              rintro e w6' ⟨rfl,rfl⟩
              go_wp2_with fail
              have hbz:Below w6.heap.size w6 w6.drew:=(Below.refl _ _).drew
              have hbw6:b2 < w6.heap.size:=HBW6.out
              have HSF:Hid (∀ W,Below w6.heap.size w6 W→W.cell? ⟨w.heap.size,0,none⟩ = some (.slice (some ⟨b,off,none⟩) n k1)∧W.cell? ⟨w.heap.size,1,none⟩ = some (.slice (some ⟨b2,o2,none⟩) m k2)∧W.cell? ⟨b2,o2,none⟩ = w6.cell? ⟨b2,o2,none⟩):=fun W hW=>⟨(hW.cell (p:=⟨w.heap.size,0,none⟩) HXL.out).trans e0,(hW.cell (p:=⟨w.heap.size,1,none⟩) HXL.out).trans e1,hW.cell (p:=⟨b2,o2,none⟩) hbw6⟩
              rw[f0] at HSF
              clear hbw6
              go_region_held3 (fun w'=>w'.cell? ⟨w.heap.size,0,none⟩ = some (.slice (some ⟨b,off,none⟩) n k1)∧w'.cell? ⟨w.heap.size,1,none⟩ = some (.slice (some ⟨b2,o2,none⟩) m k2)∧w'.cell? ⟨b2,o2,none⟩ = some (.int .i64 g))
               (first|exact HSF.out _ (by assumption)|go_keep)
               (first
                 | (go_simp;(try rw[hw11]);go_at_call 74;(try rw[hw11]);(with_reducible refine(HFR1.out _ (HB6.out.trans (hbz.mono HB6.out.size))).mono ?_)
                    rintro e w7 ⟨rfl,hb7⟩
                    have hbz:=hbz.trans (hb7.mono hbz.size)
                    unfold besV
                    clear hb7))
              all_goals
               go_wp2_with fail
               go_ret2
               rw[HV.out]
               exact⟨rfl,HB6.out.trans (hbz.mono HB6.out.size)⟩
            · have hi0':¬(t:Int)=0:=by omega
              obtain⟨ga,hga1,hga2,hga3,hga4⟩:=hgat (t - 1) (by omega)
              have hca:wr.cell? ⟨b2,o2+ (t - 1),none⟩ = some (.int .i64 ga):=hcell (t - 1) _ (by unfold ints;rw[List.getElem?_map,hga1];rfl)
              obtain⟨j,hj⟩:∃ j:Nat,t=j+1:=⟨t - 1,by omega⟩
              have hwi:IntKind.i64.wrap ((t:Int) - 1)= (j:Int):=by rw[show(t:Int) - 1= (j:Int) by omega];exact IntWalk.i64_in _ ⟨by omega,by omega⟩
              rw[show t - 1=j by omega] at hca
              have hjm: (j:Int) < (m:Int):=by omega
              have hj0: (0:Int)≤(j:Int):=by omega
              have HCA:=Lib.hid hca
              have hwg:IntKind.i64.wrap (ga+1)=ga+1:=IntWalk.i64_in _ ⟨by omega,by omega⟩
              have HFRA:Hid (∀ W,Below w.heap.size w W→Calls Tryz.prog 74 #[.agg #[.slice (some ⟨b,off,none⟩) n k1,.slice (some ⟨b2,o2,none⟩) m k2],.int .i64 j,.int .i64 a,.int .i64 (ga+1),.slice ad3 m3 k3,.slice ad4 m4 k4] W fun e w'=>e=.returned (besV (besN (numC cl j a vals (sortS consts)) (ga+1)))∧Below W.heap.size W w'):=
               fun W hW=>HFR.out W j (ga+1) hW (by rw[HN.out];omega) ⟨by omega,by omega⟩
              by_cases hlast:t < m
              · have hlast': (t:Int) < (m:Int):=by omega
                obtain⟨gb,hgb1,hgb2,hgb3,hgb4⟩:=hgat t (by omega)
                have HCB:=Lib.hid (show wr.cell? ⟨b2,o2+t,none⟩ = some (.int .i64 gb) from hcell t _ (by unfold ints;rw[List.getElem?_map,hgb1];rfl))
                have hwi2:IntKind.i64.wrap ((t:Int)+1)= ((t+1:Nat):Int):=by rw[show(t:Int)+1= ((t+1:Nat):Int) by omega];exact IntWalk.i64_in _ ⟨by omega,by omega⟩
                obtain⟨I2,hI2⟩:∃ I2:Nat,t+1=I2:=⟨_,rfl⟩
                rw[hI2] at hwi2
                by_cases hq2:ga=K∧gb≠K
                · obtain⟨q1,q2⟩:=hq2
                  have q2b: (gb !=K)=true:=by simp[q2]
                  have HV:Hid (numZ (cl,gl) a vals (sortS consts) r=besN (numC cl I2 a vals (sortS consts)) (-gb - 1)):=by
                   unfold Hid;rw[HU0.out,if_pos (.inr ⟨by rw[HN.out];omega,by rw[hga2];exact q1,by rw[hgb2];exact q2⟩),hgb2,hI2]
                  have hwn:IntKind.i64.wrap (-gb)= -gb:=IntWalk.i64_in _ ⟨by omega,by omega⟩
                  have hwd:IntKind.i64.wrap (-gb - 1)= -gb - 1:=IntWalk.i64_in _ ⟨by omega,by omega⟩
                  have HFRB:Hid (∀ W,Below w.heap.size w W→Calls Tryz.prog 74 #[.agg #[.slice (some ⟨b,off,none⟩) n k1,.slice (some ⟨b2,o2,none⟩) m k2],.int .i64 I2,.int .i64 a,.int .i64 (-gb - 1),.slice ad3 m3 k3,.slice ad4 m4 k4] W fun e w'=>e=.returned (besV (besN (numC cl I2 a vals (sortS consts)) (-gb - 1)))∧Below W.heap.size W w'):=
                   fun W hW=>HFR.out W I2 (-gb - 1) hW (by rw[HN.out];omega) ⟨by omega,by omega⟩
                  clear hgat hcell HU0 hca hzr hxy hq hgd hbr htl hat hsh hal hz2 hK HFRA hj hN1
                  go_wp2_with fail
                  refine HHA.out.mono ?_
                  rintro e w5 ⟨rfl,rfl⟩
                  go_wp2_with fail
                  refine HAL.out.mono ?_
                  rintro e w6 ⟨rfl,hb6⟩
                  have e0:=((HX.out.keep HBR.out).keep hb6).two.1
                  have e1:=((HX.out.keep HBR.out).keep hb6).two.2
                  have HBW6:=Lib.hid (Nat.lt_of_lt_of_le hbl2 hb6.size)
                  have HXL:=Lib.hid ((HX.out.keep HBR.out).keep hb6).lt
                  have f0:w6.cell? ⟨b2,o2+j,none⟩ = some (.int .i64 ga):=(hb6.cell (p:=⟨b2,o2+j,none⟩) hbl2).trans HCA.out
                  have f1:w6.cell? ⟨b2,o2+t,none⟩ = some (.int .i64 gb):=(hb6.cell (p:=⟨b2,o2+t,none⟩) hbl2).trans HCB.out
                  have HB6:=Lib.hid (HB.out.trans (hb6.mono HB.out.size))
                  clear hb6 s0 s1
                  go_wp2_with fail
                  refine(HCP.out _).mono ?_
                  rintro e w6' ⟨rfl,rfl⟩
                  go_wp2_with fail
                  have hbz:Below w6.heap.size w6 w6.drew:=(Below.refl _ _).drew
                  have hbw6:b2 < w6.heap.size:=HBW6.out
                  have HSF:Hid (∀ W,Below w6.heap.size w6 W→W.cell? ⟨w.heap.size,0,none⟩ = some (.slice (some ⟨b,off,none⟩) n k1)∧W.cell? ⟨w.heap.size,1,none⟩ = some (.slice (some ⟨b2,o2,none⟩) m k2)∧W.cell? ⟨b2,o2+t,none⟩ = w6.cell? ⟨b2,o2+t,none⟩):=fun W hW=>⟨(hW.cell (p:=⟨w.heap.size,0,none⟩) HXL.out).trans e0,(hW.cell (p:=⟨w.heap.size,1,none⟩) HXL.out).trans e1,hW.cell (p:=⟨b2,o2+t,none⟩) hbw6⟩
                  rw[f1] at HSF
                  clear hbw6
                  go_region_held3 (fun w'=>w'.cell? ⟨w.heap.size,0,none⟩ = some (.slice (some ⟨b,off,none⟩) n k1)∧w'.cell? ⟨w.heap.size,1,none⟩ = some (.slice (some ⟨b2,o2,none⟩) m k2)∧w'.cell? ⟨b2,o2+t,none⟩ = some (.int .i64 gb))
                   (first|exact HSF.out _ (by assumption)|go_keep)
                   (first
                     | (go_simp;go_at_call 74;(with_reducible refine(HFRB.out _ (HB6.out.trans (hbz.mono HB6.out.size))).mono ?_)
                        rintro e w7 ⟨rfl,hb7⟩
                        have hbz:=hbz.trans (hb7.mono hbz.size)
                        unfold besV
                        clear hb7))
                  all_goals
                   go_wp2_with fail
                   go_ret2
                   rw[HV.out]
                   exact⟨rfl,HB6.out.trans (hbz.mono HB6.out.size)⟩
                · have HV:Hid (numZ (cl,gl) a vals (sortS consts) r=besN (numC cl j a vals (sortS consts)) (ga+1)):=by
                   unfold Hid;rw[HU0.out,if_neg (by rintro(e| ⟨_,e1,e2⟩);· exact hi0 e
                                                    · exact hq2 ⟨by rw[←hga2];exact e1,by rw[←hgb2];exact e2⟩),hga2,show t - 1=j by omega]
                  have hq': (ga == K)=false∨((ga == K)=true∧(gb !=K)=false):=by
                   by_cases q1:ga=K
                   · by_cases q2:gb=K
                     · exact .inr ⟨by simp[q1],by simp[q2]⟩
                     · exact absurd ⟨q1,q2⟩ hq2
                   · exact .inl (by simp[q1])
                  clear hgat hcell HU0 hca hzr hxy hq hgd hbr htl hat hsh hal hz2 hK hq2 hj hN1
                  have HFA:Hid (∀ W',Below wr.heap.size wr W'→W'.cell? ⟨b2,o2+j,none⟩ = some (.int .i64 ga)∧W'.cell? ⟨b2,o2+t,none⟩ = some (.int .i64 gb)):=fun W' hW=>⟨(hW.cell (p:=⟨b2,o2+j,none⟩) hbl2).trans HCA.out,(hW.cell (p:=⟨b2,o2+t,none⟩) hbl2).trans HCB.out⟩
                  rcases hq' with q1b| ⟨q1b,q2b⟩
                  all_goals
                   go_wp2_with fail
                   refine HHA.out.mono ?_
                   rintro e w5 ⟨rfl,rfl⟩
                   go_wp2_with fail
                   refine HAL.out.mono ?_
                   rintro e w6 ⟨rfl,hb6⟩
                   have e0:=((HX.out.keep HBR.out).keep hb6).two.1
                   have e1:=((HX.out.keep HBR.out).keep hb6).two.2
                   have HBW6:=Lib.hid (Nat.lt_of_lt_of_le hbl2 hb6.size)
                   have HXL:=Lib.hid ((HX.out.keep HBR.out).keep hb6).lt
                   obtain⟨f0,f1⟩:=HFA.out _ hb6
                   have HB6:=Lib.hid (HB.out.trans (hb6.mono HB.out.size))
                   clear hb6 s0 s1
                   go_wp2_with fail
                   refine(HCP.out _).mono ?_
                   rintro e w6' ⟨rfl,rfl⟩
                   go_wp2_with fail
                   have hbz:Below w6.heap.size w6 w6.drew:=(Below.refl _ _).drew
                   have hbw6:b2 < w6.heap.size:=HBW6.out
                   have HSF:Hid (∀ W,Below w6.heap.size w6 W→W.cell? ⟨w.heap.size,0,none⟩ = some (.slice (some ⟨b,off,none⟩) n k1)∧W.cell? ⟨w.heap.size,1,none⟩ = some (.slice (some ⟨b2,o2,none⟩) m k2)∧W.cell? ⟨b2,o2+j,none⟩ = w6.cell? ⟨b2,o2+j,none⟩):=fun W hW=>⟨(hW.cell (p:=⟨w.heap.size,0,none⟩) HXL.out).trans e0,(hW.cell (p:=⟨w.heap.size,1,none⟩) HXL.out).trans e1,hW.cell (p:=⟨b2,o2+j,none⟩) hbw6⟩
                   rw[f0] at HSF
                   clear hbw6
                   go_region_held3 (fun w'=>w'.cell? ⟨w.heap.size,0,none⟩ = some (.slice (some ⟨b,off,none⟩) n k1)∧w'.cell? ⟨w.heap.size,1,none⟩ = some (.slice (some ⟨b2,o2,none⟩) m k2)∧w'.cell? ⟨b2,o2+j,none⟩ = some (.int .i64 ga))
                    (first|exact HSF.out _ (by assumption)|go_keep)
                    (first
                      | (go_simp;go_at_call 74;(with_reducible refine(HFRA.out _ (HB6.out.trans (hbz.mono HB6.out.size))).mono ?_)
                         rintro e w7 ⟨rfl,hb7⟩
                         have hbz:=hbz.trans (hb7.mono hbz.size)
                         unfold besV
                         clear hb7))
                   all_goals
                    go_wp2_with fail
                    go_ret2
                    rw[HV.out]
                    exact⟨rfl,HB6.out.trans (hbz.mono HB6.out.size)⟩
              · have hlast':¬(t:Int) < (m:Int):=by omega
                have HV:Hid (numZ (cl,gl) a vals (sortS consts) r=besN (numC cl j a vals (sortS consts)) (ga+1)):=by
                 unfold Hid;rw[HU0.out,if_neg (by rintro(e| ⟨e,_⟩);· exact hi0 e
                                                  · rw[HN.out] at e;omega),hga2,show t - 1=j by omega]
                clear hgat hcell HU0 hca hzr hxy hq hgd hbr htl hat hsh hal hz2 hK hj hN1
                go_wp2_with fail
                refine HHA.out.mono ?_
                rintro e w5 ⟨rfl,rfl⟩
                go_wp2_with fail
                refine HAL.out.mono ?_
                rintro e w6 ⟨rfl,hb6⟩
                have e0:=((HX.out.keep HBR.out).keep hb6).two.1
                have e1:=((HX.out.keep HBR.out).keep hb6).two.2
                have HBW6:=Lib.hid (Nat.lt_of_lt_of_le hbl2 hb6.size)
                have HXL:=Lib.hid ((HX.out.keep HBR.out).keep hb6).lt
                have f0:w6.cell? ⟨b2,o2+j,none⟩ = some (.int .i64 ga):=(hb6.cell (p:=⟨b2,o2+j,none⟩) hbl2).trans HCA.out
                have HB6:=Lib.hid (HB.out.trans (hb6.mono HB.out.size))
                clear hb6 s0 s1
                go_wp2_with fail
                refine(HCP.out _).mono ?_
                rintro e w6' ⟨rfl,rfl⟩
                go_wp2_with fail
                have hbz:Below w6.heap.size w6 w6.drew:=(Below.refl _ _).drew
                have hbw6:b2 < w6.heap.size:=HBW6.out
                have HSF:Hid (∀ W,Below w6.heap.size w6 W→W.cell? ⟨w.heap.size,0,none⟩ = some (.slice (some ⟨b,off,none⟩) n k1)∧W.cell? ⟨w.heap.size,1,none⟩ = some (.slice (some ⟨b2,o2,none⟩) m k2)∧W.cell? ⟨b2,o2+j,none⟩ = w6.cell? ⟨b2,o2+j,none⟩):=fun W hW=>⟨(hW.cell (p:=⟨w.heap.size,0,none⟩) HXL.out).trans e0,(hW.cell (p:=⟨w.heap.size,1,none⟩) HXL.out).trans e1,hW.cell (p:=⟨b2,o2+j,none⟩) hbw6⟩
                rw[f0] at HSF
                clear hbw6
                go_region_held3 (fun w'=>w'.cell? ⟨w.heap.size,0,none⟩ = some (.slice (some ⟨b,off,none⟩) n k1)∧w'.cell? ⟨w.heap.size,1,none⟩ = some (.slice (some ⟨b2,o2,none⟩) m k2)∧w'.cell? ⟨b2,o2+j,none⟩ = some (.int .i64 ga))
                 (first|exact HSF.out _ (by assumption)|go_keep)
                 (first
                   | (go_simp;go_at_call 74;(with_reducible refine(HFRA.out _ (HB6.out.trans (hbz.mono HB6.out.size))).mono ?_)
                      rintro e w7 ⟨rfl,hb7⟩
                      have hbz:=hbz.trans (hb7.mono hbz.size)
                      unfold besV
                      clear hb7))
                all_goals
                 go_wp2_with fail
                 go_ret2
                 rw[HV.out]
                 exact⟨rfl,HB6.out.trans (hbz.mono HB6.out.size)⟩
          · have h2':¬(m:Int)= (N1:Int):=by omega
            have HV:Hid (numZ (cl,gl) a vals (sortS consts) r= (0,12)):=by
             unfold Hid;rw[HU.out];unfold numF;rw[hsh,if_neg (by simp),if_neg (by rw[HN.out];omega),if_pos (by rw[HN.out,HM.out];omega)]
            clear hzr hxy hq hgd hbr htl hat hsh hal hN1
            go_wp2_with fail
            refine HHA.out.mono ?_
            rintro e w5 ⟨rfl,rfl⟩
            go_wp2_with fail
            refine HAL.out.mono ?_
            rintro e w6 ⟨rfl,hb6⟩
            have e0:=((HX.out.keep HBR.out).keep hb6).two.1
            have e1:=((HX.out.keep HBR.out).keep hb6).two.2
            have HB6:=Lib.hid (HB.out.trans (hb6.mono HB.out.size))
            clear hb6 s0 s1
            go_wp2_with fail
            go_ret2
            rw[HV.out]
            exact⟨rfl,HB6.out⟩
  · obtain rfl:t=n:=by omega
    have hF:=HF.out
    rw[show cl.take t=cl from by rw[←HN.out];exact List.take_length] at hF
    have HU:Hid (numZ (cl,gl) a vals (sortS consts) r= (0,12)):=by
     unfold Hid numZ
     rw[if_pos]
     unfold atZ
     rw[List.findIdx_eq_length.2 hF]
     exact Nat.le_refl _
    clear hF hbr
    go_wp2_with fail
    go_ret2
    rw[HU.out]
    exact⟨rfl,HB.out⟩
end Go.Proofs.YtkkoooagamadjaaGreatDoor
