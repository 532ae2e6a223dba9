import Derived.Test.YtkkoooagamadjaaGreatDoorPk39
import Derived.BigQuiet
namespace Go.Proofs.YtkkoooagamadjaaGreatDoor
open Go.RowKit Go.Shelf
set_option maxRecDepth 100000 in
set_option maxHeartbeats 2000000 in
theorem fshared_any {W:World} {p:Nat} {cl:List (Int × Int)} {gl:List Int} {a cap:Int} {vals consts:List Int} (h:Fnd W p cl gl a cap vals consts) (i:Nat) (hi:i < cl.length) (hcl:cl.length≤1000) :
 Calls Tryz.prog 93 #[.pointer (some ⟨p,0,none⟩),.int .i64 i] W fun e w'=>e=.returned (.bool (sharC cl i a))∧Below W.heap.size W w':=by
 obtain⟨v1,v2,vv,cv,hb,hz,hvv,hcv⟩:=h.ex
 clear h hvv hcv
 obtain⟨x,hx⟩:∃ x,cl[i]?=some x:=⟨_,List.getElem?_eq_getElem hi⟩
 obtain⟨s,k⟩:=x
 have hg:cl.getD i (0,-1)= (s,k):=by rw[List.getD_eq_getElem?_getD,hx];rfl
 obtain⟨ad1,k1,rfl⟩:=hz.1.len
 obtain⟨n,hn⟩:∃ n,cl.length=n:=⟨_,rfl⟩
 have hz1:=hz.1
 rw[hn] at hz1 hb hi hcl
 obtain⟨b,off,rfl,hbl,d0,d1⟩:=hz1.cls hx (by omega)
 obtain⟨W1,hW1⟩:∃ W1,W.alloc (.cells #[.int .i64 s,.int .i64 k] 47)=W1:=⟨_,rfl⟩
 have hb1:Below W.heap.size W W1:=by rw[←hW1];exact(Below.refl _ _).alloc (Nat.le_refl _) _
 have x1:Blk W1 W.heap.size #[.int .i64 s,.int .i64 k] 47:=by rw[←hW1];exact Blk.new _ _ _
 have c0:W.cell? ⟨p,0,none⟩ = some (.slice (some ⟨b,off,none⟩) n k1):=hb.cell rfl
 have e2:W1.cell? ⟨p,2,none⟩ = some (.int .i64 a):=(hb.keep hb1).cell rfl
 have g0:=x1.two.1;have g1:=x1.two.2
 have hi0: (i:Int) < (n:Int):=by omega
 have HB1:=Lib.hid hb1
 have HU:Hid (sharC cl i a= (decide (0≤k) || !(decide (putZ s a false=0)))):=by
  have he: (othL s a).isEmpty=decide (putZ s a false=0):=by rw[Bool.eq_iff_iff,decide_eq_true_iff,oth_zero,List.isEmpty_iff]
  unfold Hid sharC
  rw[hg]
  dsimp only
  rw[he]
 clear hb hz hz1 hb1 x1 hx hg hn hbl
 by_cases hk:0≤k
 · have HV:Hid (sharC cl i a=true):=by unfold Hid;rw[HU.out];simp[hk]
   obtain⟨q,rfl⟩:∃ q:Nat,k= (q:Int):=⟨k.toNat,by omega⟩
   clear hk
   go_enter Tryz.func93,Tryz.ntmps93
   go_wp2
   go_quiet (fail)
   go_wp2
   go_ret
   rw[HV.out]
   exact⟨rfl,below_drewN HB1.out _⟩
 · have hk2:k < 0:=by omega
   obtain⟨T,hT⟩:∃ T,putZ s a false=T:=⟨_,rfl⟩
   have HWO:Hid (∀ w,Calls Tryz.prog 53 #[.int .i64 s,.int .i64 a] w fun e w'=>e=.returned (.int .i64 T)∧w'=w):=fun w=>by rw[←hT];exact(without_any s a w).mono fun e w' h=>⟨h.1,h.2.symm⟩
   rw[hT] at HU
   by_cases h0:T=0
   · have HV:Hid (sharC cl i a=false):=by unfold Hid;rw[HU.out];simp[hk,h0]
     clear hT
     go_enter Tryz.func93,Tryz.ntmps93
     go_wp2
     go_quiet ((go_at_call 53;exact Calls.quiet_of_same (HWO.out _)))
     go_wp2
     go_ret
     exact⟨ret_bool (by rw[HV.out];simp[hk]),below_drewN HB1.out _⟩
   · have HV:Hid (sharC cl i a=true):=by unfold Hid;rw[HU.out];simp[h0]
     clear hT
     go_enter Tryz.func93,Tryz.ntmps93
     go_wp2
     go_quiet ((go_at_call 53;exact Calls.quiet_of_same (HWO.out _)))
     go_wp2
     go_ret
     exact⟨ret_bool (by rw[HV.out];simp[h0]),below_drewN HB1.out _⟩
def besV (x:Int × Int):Value:=.tuple #[.int .i64 x.1,.int .i64 x.2]
set_option maxRecDepth 100000 in
set_option maxHeartbeats 2000000 in
theorem fbeside_any {W:World} {p:Nat} {cl:List (Int × Int)} {gl:List Int} {a cap:Int} {vals consts:List Int} (h:Fnd W p cl gl a cap vals consts) (hc:consts.length≤12) (hv:vals.length≤1000) (i:Nat) (hi:i < cl.length) (hcl:cl.length≤1000)
 (hI:∀ x ∈ vals ++consts,In64 x) (g sd:Int) (hg0:0≤g) (hg1:g≤1099511627776) (hsd:sd=1∨sd= -1) (d:Int) (hd:d=sd * (g+1)) :
 Calls Tryz.prog 95 #[.pointer (some ⟨p,0,none⟩),.int .i64 i,.int .i64 g,.int .i64 sd] W fun e w'=>e=.returned (besV (besN (numC cl i a vals (sortS consts)) d))∧Below W.heap.size W w':=by
 have HCL:=Lib.hid (fclass_any h hc hv i hi hcl)
 have hin:∀ y,numC cl i a vals (sortS consts)=some y→In64 y:=by
  intro y hy
  unfold numC at hy
  split at hy
  · exact hI y (List.mem_append_right _ (((sortS_ok consts).2 y).1 (List.mem_of_getElem? hy)))
  · cases hh: (othL (cl.getD i (0,-1)).1 a).head? with
    | none=>rw[hh] at hy;cases hy
    | some b=>rw[hh] at hy;exact hI y (List.mem_append_left _ (List.mem_of_getElem? hy))
 have hw1:IntKind.i64.wrap (g+1)=g+1:=IntWalk.i64_in _ ⟨by omega,by omega⟩
 have hw2:IntKind.i64.wrap (sd * (g+1))=d:=by rw[←hd];exact IntWalk.i64_in _ ⟨by rcases hsd with rfl|rfl <;> omega,by rcases hsd with rfl|rfl <;> omega⟩
 have hdb:In64 d:=by unfold In64;rcases hsd with rfl|rfl <;> omega
 have HDB:=Lib.hid hdb
 clear h hI hdb hd hsd
 cases ho:numC cl i a vals (sortS consts) with
 | none=>
   rw[ho] at HCL
   have HU:Hid (besN none d= (0,12)):=rfl
   clear hw1 hw2 hin ho
   go_enter Tryz.func95,Tryz.ntmps95
   go_wp2_with fail
   refine HCL.out.mono ?_
   rintro e w2 ⟨rfl,hb2⟩
   have HB2:=Lib.hid hb2
   unfold numV
   clear hb2
   go_wp2_with fail
   go_ret2
   rw[HU.out]
   exact⟨rfl,HB2.out⟩
 | some y=>
   rw[ho] at HCL
   have HAD:=Lib.hid (fun w=>add_any y d w (hin y ho) HDB.out)
   clear hin ho
   by_cases hr:-9223372036854775808≤y+d∧y+d≤9223372036854775807
   · have HU:Hid (besN (some y) d= (y+d,0)):=by unfold Hid besN;dsimp only;rw[if_pos hr]
     have HS:Hid (sumV y d=.tuple #[.int .i64 (y+d),.bool true]):=by unfold Hid sumV;rw[if_pos hr]
     clear hr
     go_enter Tryz.func95,Tryz.ntmps95
     go_wp2_with fail
     refine HCL.out.mono ?_
     rintro e w2 ⟨rfl,hb2⟩
     have HB2:=Lib.hid hb2
     unfold numV
     clear hb2
     go_wp2_with fail
     refine(HAD.out _).mono ?_
     rintro e w3 ⟨rfl,rfl⟩
     rw[HS.out]
     go_wp2_with fail
     go_ret2
     rw[HU.out]
     exact⟨rfl,HB2.out⟩
   · have HU:Hid (besN (some y) d= (0,14)):=by unfold Hid besN;dsimp only;rw[if_neg hr]
     have HS:Hid (sumV y d=.tuple #[.int .i64 0,.bool false]):=by unfold Hid sumV;rw[if_neg hr]
     clear hr
     go_enter Tryz.func95,Tryz.ntmps95
     go_wp2_with fail
     refine HCL.out.mono ?_
     rintro e w2 ⟨rfl,hb2⟩
     have HB2:=Lib.hid hb2
     unfold numV
     clear hb2
     go_wp2_with fail
     refine(HAD.out _).mono ?_
     rintro e w3 ⟨rfl,rfl⟩
     rw[HS.out]
     go_wp2_with fail
     go_ret2
     rw[HU.out]
     exact⟨rfl,HB2.out⟩
def numF (cl:List (Int × Int)) (gl:List Int) (i:Nat) (a:Int) (cap:Int) (vals cs:List Int):Int × Int:=
 if sharC cl i a then(match numC cl i a vals cs with|none=>(0,12)|some n=>(n,0))
 else if cl.length=1 then(0,0)
 else if gl.length≠cl.length - 1 then(0,12)
 else if i=0∨(i < cl.length - 1∧gl.getD (i - 1) 0=cap∧gl.getD i 0≠cap) then besN (numC cl (i+1) a vals cs) (-(gl.getD i 0) - 1)
 else besN (numC cl (i - 1) a vals cs) (gl.getD (i - 1) 0+1)
theorem numZ_F (z:Zn) (a:Int) (vals cs:List Int) (r:Int) (h:atZ a z.1 < z.1.length):numZ z a vals cs r=numF z.1 z.2 (atZ a z.1) a (kap r) vals cs:=by
 unfold numZ numF
 rw[if_neg (by omega)]
 rfl
set_option maxRecDepth 100000 in
set_option maxHeartbeats 4000000 in
theorem fnumber_any {W:World} {p:Nat} {cl:List (Int × Int)} {gl:List Int} {a cap:Int} {vals consts:List Int} (h:Fnd W p cl gl a cap vals consts) (hc:consts.length≤12) (hv:vals.length≤1000) (i:Nat) (hi:i < cl.length) (hcl:cl.length≤1000)
 (hI:∀ x ∈ vals ++consts,In64 x) (hG:∀ g ∈ gl,0≤g∧g≤1099511627776) :
 Calls Tryz.prog 61 #[.pointer (some ⟨p,0,none⟩),.int .i64 i] W fun e w'=>e=.returned (besV (numF cl gl i a cap vals (sortS consts)))∧Below W.heap.size W w':=by
 obtain⟨v1,v2,vv,cv,hb,hz,-,-⟩:=h.ex
 obtain⟨ad1,k1,rfl⟩:=hz.1.len
 obtain⟨ad2,k2,rfl⟩:=hz.2.len
 obtain⟨n,hn⟩:∃ n,cl.length=n:=⟨_,rfl⟩
 obtain⟨m,hm⟩:∃ m,gl.length=m:=⟨_,rfl⟩
 have hz2:=hz.2
 rw[hn] at hb
 rw[hm] at hb hz2
 have c0:W.cell? ⟨p,0,none⟩ = some (.slice ad1 n k1):=hb.cell rfl
 have HBK:=Lib.hid hb
 have HSH:=Lib.hid (fshared_any h i hi hcl)
 have HFN:=Lib.hid h
 have HZ2:=Lib.hid hz2
 have HI:=Lib.hid hI;have HG:=Lib.hid hG
 have HN:=Lib.hid hn;have HM:=Lib.hid hm
 have hn1:1≤n:=by omega
 have hw1:IntKind.i64.wrap ((n:Int) - 1)= (n:Int) - 1:=IntWalk.i64_in _ ⟨by omega,by omega⟩
 obtain⟨N1,hN1⟩:∃ N1:Nat,n=N1+1:=⟨n - 1,by omega⟩
 have hiN:i≤N1:=by omega
 have hcl':N1≤1000:=by omega
 have hw1b:wrap64 ((n:Int) - 1)= (N1:Int):=by unfold wrap64;omega
 have hn1000:n≤1000:=by omega
 have hn1z: (1:Int)≤(n:Int):=by omega
 have hnz: (n:Int) - 1= (N1:Int):=by omega
 rw[hnz] at hw1
 have HHI:=Lib.hid hi;have HHC:=Lib.hid hcl
 clear h hb hz hz2 hI hG hi hcl hn hm
 cases hs:sharC cl i a with
 | true=>
   have HU:Hid (numF cl gl i a cap vals (sortS consts)= (match numC cl i a vals (sortS consts) with|none=>(0,12)|some n=>(n,0))):=by
    unfold Hid numF;rw[hs,if_pos rfl]
   rw[hs] at HSH
   clear hs hN1
   go_enter Tryz.func61,Tryz.ntmps61
   go_wp2_with fail
   refine HSH.out.mono ?_
   rintro e w2 ⟨rfl,hb2⟩
   have HCL:=Lib.hid (fclass_any (HFN.out.below hb2) hc hv i HHI.out HHC.out)
   have HB2:=Lib.hid hb2
   clear hb2 c0
   cases ho:numC cl i a vals (sortS consts) with
   | none=>
     rw[ho] at HU HCL
     clear ho
     go_wp2_with fail
     refine HCL.out.mono ?_
     rintro e w3 ⟨rfl,hb3⟩
     have HB3:=Lib.hid (HB2.out.trans (hb3.mono HB2.out.size))
     unfold numV
     clear hb3
     go_wp2_with fail
     go_ret2
     rw[HU.out]
     exact⟨rfl,HB3.out⟩
   | some y=>
     rw[ho] at HU HCL
     clear ho
     go_wp2_with fail
     refine HCL.out.mono ?_
     rintro e w3 ⟨rfl,hb3⟩
     have HB3:=Lib.hid (HB2.out.trans (hb3.mono HB2.out.size))
     unfold numV
     clear hb3
     go_wp2_with fail
     go_ret2
     rw[HU.out]
     exact⟨rfl,HB3.out⟩
 | false=>
   rw[hs] at HSH
   by_cases h1:N1=0
   · have HU:Hid (numF cl gl i a cap vals (sortS consts)= (0,0)):=by
      unfold Hid numF;rw[hs,if_neg (by simp),if_pos (by rw[HN.out];omega)]
     have h1': (N1:Int)=0:=by omega
     clear hs hN1
     go_enter Tryz.func61,Tryz.ntmps61
     go_wp2_with fail
     refine HSH.out.mono ?_
     rintro e w2 ⟨rfl,hb2⟩
     have HB2:=Lib.hid hb2
     clear hb2 c0
     go_wp2_with fail
     go_ret2
     rw[HU.out]
     exact⟨rfl,HB2.out⟩
   · have h1':¬(N1:Int)=0:=by omega
     by_cases h2:m=N1
     · have h2': (m:Int)= (N1:Int):=by omega
       have HU0:Hid (numF cl gl i a cap vals (sortS consts)=if i=0∨(i < cl.length - 1∧gl.getD (i - 1) 0=cap∧gl.getD i 0≠cap) then besN (numC cl (i+1) a vals (sortS consts)) (-(gl.getD i 0) - 1) else besN (numC cl (i - 1) a vals (sortS consts)) (gl.getD (i - 1) 0+1)):=by
        unfold Hid numF;rw[hs,if_neg (by simp),if_neg (by rw[HN.out];omega),if_neg (by rw[HN.out,HM.out];omega)]
       have hgat:∀ j,j < N1→∃ g,gl[j]?=some g∧gl.getD j 0=g∧0≤g∧g≤1099511627776:=by
        intro j hj
        have hjl:j < gl.length:=by rw[HM.out];omega
        exact⟨gl[j],List.getElem?_eq_getElem hjl,by rw[List.getD_eq_getElem?_getD,List.getElem?_eq_getElem hjl];rfl,(HG.out _ (List.getElem_mem hjl)).1,(HG.out _ (List.getElem_mem hjl)).2⟩
       obtain⟨b2,o2,rfl,hlt2,hcell⟩:=HZ2.out.at (by omega)
       subst h2
       clear hs
       by_cases hi0:i=0
       · subst hi0
         obtain⟨g,hg1,hg2,hg3,hg4⟩:=hgat 0 (by omega)
         have HU:Hid (numF cl gl 0 a cap vals (sortS consts)=besN (numC cl 1 a vals (sortS consts)) (-g - 1)):=by
          unfold Hid;rw[HU0.out,if_pos (.inl rfl),hg2]
         have hcell0:W.cell? ⟨b2,o2,none⟩ = some (.int .i64 g):=hcell 0 _ (by unfold ints;rw[List.getElem?_map,hg1];rfl)
         have hm1: (0:Int) < (m:Int):=by omega
         have HC0:=Lib.hid hcell0
         have HL1:=Lib.hid (show 1 < cl.length by rw[HN.out];omega)
         clear hgat hcell HU0 hN1 hcell0
         go_enter Tryz.func61,Tryz.ntmps61
         go_wp2_with fail
         refine HSH.out.mono ?_
         rintro e w2 ⟨rfl,hb2⟩
         have c1:w2.cell? ⟨p,1,none⟩ = some (.slice (some ⟨b2,o2,none⟩) m k2):=(HBK.out.keep hb2).cell rfl
         have f0:w2.cell? ⟨b2,o2,none⟩ = some (.int .i64 g):=(hb2.cell (p:=⟨b2,o2,none⟩) hlt2).trans HC0.out
         have HBS:=Lib.hid (fbeside_any (HFN.out.below hb2) hc hv 1 HL1.out HHC.out HI.out g (-1) hg3 hg4 (.inr rfl) (-g - 1) (by omega))
         have HB2:=Lib.hid hb2
         clear hb2 c0
         go_wp2_with fail
         refine HBS.out.mono ?_
         rintro e w3 ⟨rfl,hb3⟩
         have HB3:=Lib.hid (HB2.out.trans (hb3.mono HB2.out.size))
         unfold besV
         clear hb3
         go_wp2_with fail
         go_ret2
         rw[HU.out]
         exact⟨rfl,HB3.out⟩
       · have hi0':¬(i:Int)=0:=by omega
         obtain⟨ga,hga1,hga2,hga3,hga4⟩:=hgat (i - 1) (by omega)
         have hca:W.cell? ⟨b2,o2+ (i - 1),none⟩ = some (.int .i64 ga):=hcell (i - 1) _ (by unfold ints;rw[List.getElem?_map,hga1];rfl)
         obtain⟨j,hj⟩:∃ j:Nat,i=j+1:=⟨i - 1,by omega⟩
         have hwi:IntKind.i64.wrap ((i:Int) - 1)= (j:Int):=by rw[show(i:Int) - 1= (j:Int) by omega];exact IntWalk.i64_in _ ⟨by omega,by omega⟩
         rw[show i - 1=j by omega] at hca
         have hjm: (j:Int) < (m:Int):=by omega
         have HCA:=Lib.hid hca
         have HLJ:=Lib.hid (show j < cl.length by rw[HN.out];omega)
         by_cases hlast:i < m
         · have hlast': (i:Int) < (m:Int):=by omega
           obtain⟨gb,hgb1,hgb2,hgb3,hgb4⟩:=hgat i (by omega)
           have HCB:=Lib.hid (show W.cell? ⟨b2,o2+i,none⟩ = some (.int .i64 gb) from hcell i _ (by unfold ints;rw[List.getElem?_map,hgb1];rfl))
           have hwi2:IntKind.i64.wrap ((i:Int)+1)= ((i+1:Nat):Int):=by rw[show(i:Int)+1= ((i+1:Nat):Int) by omega];exact IntWalk.i64_in _ ⟨by omega,by omega⟩
           obtain⟨I2,hI2⟩:∃ I2:Nat,i+1=I2:=⟨_,rfl⟩
           rw[hI2] at hwi2
           have HLI:=Lib.hid (show I2 < cl.length∨¬i < m by rw[HN.out];omega)
           by_cases hq:ga=cap∧gb≠cap
           · obtain⟨q1,q2⟩:=hq
             have HU:Hid (numF cl gl i a cap vals (sortS consts)=besN (numC cl I2 a vals (sortS consts)) (-gb - 1)):=by
              unfold Hid;rw[HU0.out,if_pos (.inr ⟨by rw[HN.out];omega,by rw[hga2];exact q1,by rw[hgb2];exact q2⟩),hgb2,hI2]
             clear hgat hcell HU0 hca hj hN1
             go_enter Tryz.func61,Tryz.ntmps61
             go_wp2_with fail
             refine HSH.out.mono ?_
             rintro e w2 ⟨rfl,hb2⟩
             have c1:w2.cell? ⟨p,1,none⟩ = some (.slice (some ⟨b2,o2,none⟩) m k2):=(HBK.out.keep hb2).cell rfl
             have c3:w2.cell? ⟨p,3,none⟩ = some (.int .i64 cap):=(HBK.out.keep hb2).cell rfl
             have f0:w2.cell? ⟨b2,o2+j,none⟩ = some (.int .i64 ga):=(hb2.cell (p:=⟨b2,o2+j,none⟩) hlt2).trans HCA.out
             have f1:w2.cell? ⟨b2,o2+i,none⟩ = some (.int .i64 gb):=(hb2.cell (p:=⟨b2,o2+i,none⟩) hlt2).trans HCB.out
             have HBS:=Lib.hid (fun w (hw:Below w2.heap.size w2 w)=>fbeside_any ((HFN.out.below hb2).below hw) hc hv I2 (HLI.out.resolve_right (fun h=>h hlast)) HHC.out HI.out gb (-1) hgb3 hgb4 (.inr rfl) (-gb - 1) (by omega))
             have HB2:=Lib.hid hb2
             clear hb2 c0
             go_wp2
             go_quiet (fail)
             obtain⟨wq,hwq⟩:∃ W,w2.drewN nq=W:=⟨_,rfl⟩
             have hbq:Below w2.heap.size w2 wq:=by rw[←hwq];exact below_drewN (Below.refl _ _) nq
             rw[hwq]
             have c1:wq.cell? ⟨p,1,none⟩ = some (.slice (some ⟨b2,o2,none⟩) m k2):=by rw[←hwq];simpa using c1
             have f1:wq.cell? ⟨b2,o2+i,none⟩ = some (.int .i64 gb):=by rw[←hwq];simpa using f1
             have HBQ:=Lib.hid (HB2.out.trans (hbq.mono HB2.out.size))
             have HBS:=Lib.hid (HBS.out wq hbq)
             clear hwq hbq
             go_wp2_with fail
             refine HBS.out.mono ?_
             rintro e w3 ⟨rfl,hb3⟩
             have HB3:=Lib.hid (HBQ.out.trans (hb3.mono HBQ.out.size))
             unfold besV
             clear hb3
             go_wp2_with fail
             go_ret2
             rw[HU.out]
             exact⟨rfl,HB3.out⟩
           · have HU:Hid (numF cl gl i a cap vals (sortS consts)=besN (numC cl j a vals (sortS consts)) (ga+1)):=by
              unfold Hid;rw[HU0.out,if_neg (by rintro(e| ⟨_,e1,e2⟩);· exact hi0 e
                                               · exact hq ⟨by rw[←hga2];exact e1,by rw[←hgb2];exact e2⟩),hga2,show i - 1=j by omega]
             have hq': (ga≠cap∧(ga == cap)=false)∨(ga=cap∧gb=cap):=by
              by_cases q1:ga=cap
              · by_cases q2:gb=cap
                · exact .inr ⟨q1,q2⟩
                · exact absurd ⟨q1,q2⟩ hq
              · exact .inl ⟨q1,by simp[q1]⟩
             clear hgat hcell HU0 hca hq hj hN1
             have HFA:Hid (∀ W',Below W.heap.size W W'→W'.cell? ⟨b2,o2+j,none⟩ = some (.int .i64 ga)∧W'.cell? ⟨b2,o2+i,none⟩ = some (.int .i64 gb)∧W'.cell? ⟨p,3,none⟩ = some (.int .i64 cap)):=fun W' hW=>⟨(hW.cell (p:=⟨b2,o2+j,none⟩) hlt2).trans HCA.out,(hW.cell (p:=⟨b2,o2+i,none⟩) hlt2).trans HCB.out,(HBK.out.keep hW).cell rfl⟩
             have HBS:Hid (∀ W',Below W.heap.size W W'→Calls Tryz.prog 95 #[.pointer (some ⟨p,0,none⟩),.int .i64 j,.int .i64 ga,.int .i64 1] W' fun e w'=>e=.returned (besV (besN (numC cl j a vals (sortS consts)) (ga+1)))∧Below W'.heap.size W' w'):=fun W' hW=>fbeside_any (HFN.out.below hW) hc hv j HLJ.out HHC.out HI.out ga 1 hga3 hga4 (.inl rfl) (ga+1) (by omega)
             rcases hq' with⟨q1,q1b⟩ | ⟨rfl,rfl⟩
             all_goals
              go_enter Tryz.func61,Tryz.ntmps61
              go_wp2_with fail
              refine HSH.out.mono ?_
              rintro e w2 ⟨rfl,hb2⟩
              have c1:w2.cell? ⟨p,1,none⟩ = some (.slice (some ⟨b2,o2,none⟩) m k2):=(HBK.out.keep hb2).cell rfl
              obtain⟨f0,f1,c3⟩:=HFA.out _ hb2
              have HB2:=Lib.hid hb2
              clear hb2 c0
              go_wp2
              go_quiet (fail)
              obtain⟨wq,hwq⟩:∃ W,w2.drewN nq=W:=⟨_,rfl⟩
              have hbq:Below w2.heap.size w2 wq:=by rw[←hwq];exact below_drewN (Below.refl _ _) nq
              rw[hwq]
              have c1:wq.cell? ⟨p,1,none⟩ = some (.slice (some ⟨b2,o2,none⟩) m k2):=by rw[←hwq];simpa using c1
              have f0:=(HFA.out wq (HB2.out.trans (hbq.mono HB2.out.size))).1
              have HBQ:=Lib.hid (HB2.out.trans (hbq.mono HB2.out.size))
              have HBS:=Lib.hid (HBS.out wq (HB2.out.trans (hbq.mono HB2.out.size)))
              clear hwq hbq
              go_wp2_with fail
              refine HBS.out.mono ?_
              rintro e w3 ⟨rfl,hb3⟩
              have HB3:=Lib.hid (HBQ.out.trans (hb3.mono HBQ.out.size))
              unfold besV
              clear hb3
              go_wp2_with fail
              go_ret2
              rw[HU.out]
              exact⟨rfl,HB3.out⟩
         · have hlast':¬(i:Int) < (m:Int):=by omega
           have HU:Hid (numF cl gl i a cap vals (sortS consts)=besN (numC cl j a vals (sortS consts)) (ga+1)):=by
            unfold Hid;rw[HU0.out,if_neg (by rintro(e| ⟨e,_⟩);· exact hi0 e
                                             · rw[HN.out] at e;omega),hga2,show i - 1=j by omega]
           clear hgat hcell HU0 hca hj hN1
           go_enter Tryz.func61,Tryz.ntmps61
           go_wp2_with fail
           refine HSH.out.mono ?_
           rintro e w2 ⟨rfl,hb2⟩
           have c1:w2.cell? ⟨p,1,none⟩ = some (.slice (some ⟨b2,o2,none⟩) m k2):=(HBK.out.keep hb2).cell rfl
           have f0:w2.cell? ⟨b2,o2+j,none⟩ = some (.int .i64 ga):=(hb2.cell (p:=⟨b2,o2+j,none⟩) hlt2).trans HCA.out
           have HBS:=Lib.hid (fun w (hw:Below w2.heap.size w2 w)=>fbeside_any ((HFN.out.below hb2).below hw) hc hv j HLJ.out HHC.out HI.out ga 1 hga3 hga4 (.inl rfl) (ga+1) (by omega))
           have HB2:=Lib.hid hb2
           clear hb2 c0
           go_wp2
           go_quiet (fail)
           obtain⟨wq,hwq⟩:∃ W,w2.drewN nq=W:=⟨_,rfl⟩
           have hbq:Below w2.heap.size w2 wq:=by rw[←hwq];exact below_drewN (Below.refl _ _) nq
           rw[hwq]
           have c1:wq.cell? ⟨p,1,none⟩ = some (.slice (some ⟨b2,o2,none⟩) m k2):=by rw[←hwq];simpa using c1
           have f0:wq.cell? ⟨b2,o2+j,none⟩ = some (.int .i64 ga):=by rw[←hwq];simpa using f0
           have HBQ:=Lib.hid (HB2.out.trans (hbq.mono HB2.out.size))
           have HBS:=Lib.hid (HBS.out wq hbq)
           clear hwq hbq
           go_wp2_with fail
           refine HBS.out.mono ?_
           rintro e w3 ⟨rfl,hb3⟩
           have HB3:=Lib.hid (HBQ.out.trans (hb3.mono HBQ.out.size))
           unfold besV
           clear hb3
           go_wp2_with fail
           go_ret2
           rw[HU.out]
           exact⟨rfl,HB3.out⟩
     · have h2':¬(m:Int)= (N1:Int):=by omega
       have HU:Hid (numF cl gl i a cap vals (sortS consts)= (0,12)):=by
        unfold Hid numF;rw[hs,if_neg (by simp),if_neg (by rw[HN.out];omega),if_pos (by rw[HN.out,HM.out];omega)]
       clear hs hN1
       go_enter Tryz.func61,Tryz.ntmps61
       go_wp2_with fail
       refine HSH.out.mono ?_
       rintro e w2 ⟨rfl,hb2⟩
       have c1:w2.cell? ⟨p,1,none⟩ = some (.slice ad2 m k2):=(HBK.out.keep hb2).cell rfl
       have HB2:=Lib.hid hb2
       clear hb2 c0
       go_wp2_with fail
       go_ret2
       rw[HU.out]
       exact⟨rfl,HB2.out⟩
end Go.Proofs.YtkkoooagamadjaaGreatDoor
namespace Go.Proofs.YtkkoooagamadjaaGreatDoor
open Go.RowKit Go.Shelf
def idxI (a:Int) (cl:List (Int × Int)):Int:=if atZ a cl < cl.length then(atZ a cl:Int) else -1
theorem idx_at (a:Int) (cl:List (Int × Int)) (k:Nat) (x:Int × Int) (hx:cl[k]?=some x) (h:∀ y ∈ cl.take k,hasB y.1 a=false) (hb:hasB x.1 a=true):idxI a cl=k:=by
 obtain⟨hk,e⟩:=List.getElem?_eq_some_iff.1 hx
 have hs:cl=cl.take k ++x :: cl.drop (k+1):=by
  conv=>lhs;rw[←List.take_append_drop k cl,List.drop_eq_getElem_cons hk,e]
 have ha:atZ a cl=k:=by
  conv=>lhs;rw[hs]
  rw[atZ_split a _ _ x h hb,List.length_take];omega
 unfold idxI
 rw[ha,if_pos hk]
theorem idx_none (a:Int) (cl:List (Int × Int)) (h:∀ y ∈ cl,hasB y.1 a=false):idxI a cl= -1:=by
 unfold idxI atZ
 rw[if_neg]
 rw[List.findIdx_eq_length.2 h]
 omega
set_option maxRecDepth 100000 in
set_option maxHeartbeats 1000000 in
theorem hasP_any {w:World} {p:Nat} {x y a:Int} (hp:Blk w p #[.int .i64 a] 3) :
 Calls Tryz.prog 60 #[.agg #[.int .i64 x,.int .i64 y],.pointer (some ⟨p,0,none⟩)] w fun e w'=>e=.returned (.bool (hasB x a))∧Below w.heap.size w w':=by
 have hb:Below w.heap.size w (w.alloc (.cells #[.int .i64 x,.int .i64 y] 47)):=(Below.refl _ _).alloc (Nat.le_refl _) _
 have c0:w.cell? ⟨p,0,none⟩ = some (.int .i64 a):=hp.cell rfl
 have hlt:=hp.lt
 have HB:=Lib.hid hb
 obtain⟨q,hq⟩:∃ q,hasB x a=q:=⟨_,rfl⟩
 have HQ:=Lib.hid hq
 rw[hq]
 clear hb hp hq
 go_enter Tryz.func60,Tryz.ntmps60
 go_wp2_with fail
 refine(has_any x a _).mono ?_
 rintro e w' ⟨rfl,rfl⟩
 rw[HQ.out]
 go_wp2
 go_ret
 exact⟨rfl,HB.out⟩
set_option maxRecDepth 100000 in
set_option maxHeartbeats 2000000 in
theorem indexP_any {w:World} {p:Nat} {v:Value} {cl:List (Int × Int)} {a:Int} (hv:RdK w 2 v cl.length (cellsP cl)) (hp:Blk w p #[.int .i64 a] 3) (hl:cl.length≤65536) :
 Calls Tryz.prog 59 #[v,.func (.func 60) #[] #[.pointer (some ⟨p,0,none⟩)]] w fun e w'=>e=.returned (.int .i64 (idxI a cl))∧Below w.heap.size w w':=by
 obtain⟨ad,cap,rfl⟩:=hv.len
 obtain⟨n,hn⟩:∃ n,cl.length=n:=⟨_,rfl⟩
 have HN:=Lib.hid hn
 rw[hn] at hv hl ⊢
 have HV:=Lib.hid hv;have HP:=Lib.hid hp
 clear hv hp hn
 go_enter Tryz.func59,Tryz.ntmps59
 go_wp2_with fail
 go_loopw [5,8] (fun _ i wr=>∃ k:Nat,k≤n∧i=.int .i64 k∧Hid (Below w.heap.size w wr∧∀ y ∈ cl.take k,hasB y.1 a=false)) (fun _ i _=>n - (intOf i).toNat)
 case atStart=>exact⟨0,Nat.zero_le _,rfl,Below.refl _ _,fun y h=>by simp at h⟩
 case round=>
  obtain⟨k,hk,rfl,HH⟩:=hrel
  by_cases hlt:k < n
  · have hkn: (k:Int) < (n:Int):=by omega
    obtain⟨xy,hxy⟩:∃ xy,cl[k]?=some xy:=⟨_,List.getElem?_eq_getElem (by rw[HN.out];exact hlt)⟩
    obtain⟨x,y⟩:=xy
    obtain⟨b,off,rfl,hb,d0,d1⟩:=(HV.out.below HH.out.1).cls hxy (by omega)
    have HC:=Lib.hid (hasP_any (x:=x) (y:=y) (HP.out.keep HH.out.1))
    have hT:Hid (hasB x a=false→∀ z ∈ cl.take (k+1),hasB z.1 a=false):=by
     intro h0 z hz
     obtain⟨h1,h2⟩:=List.getElem?_eq_some_iff.1 hxy
     rw[List.take_succ_eq_append_getElem h1,h2,List.mem_append,List.mem_singleton] at hz
     rcases hz with hz|rfl
     · exact HH.out.2 z hz
     · exact h0
    have hA:Hid (hasB x a=true→idxI a cl=k):=fun h=>idx_at a cl k (x,y) hxy HH.out.2 h
    obtain⟨q,hq⟩:∃ q,hasB x a=q:=⟨_,rfl⟩
    rw[hq] at HC hT hA
    have HB:=Lib.hid HH.out.1
    clear hxy hq HH
    go_wp2_with fail
    refine HC.out.mono ?_
    rintro e w5 ⟨rfl,hb5⟩
    have HB5:=Lib.hid (HB.out.trans (hb5.mono HB.out.size))
    clear hb5
    cases q
    · go_wp2
      go_roundw
      case rel=>exact⟨k+1,by omega,by go_num,HB5.out,hT.out (by trivial)⟩
      case measure=>simp[intOf];omega
    · go_wp2
      go_ret
      rw[hA.out (by trivial)]
      exact⟨rfl,HB5.out⟩
  · obtain rfl:k=n:=by omega
    have hF:=HH.out.2
    rw[show cl.take k=cl from by rw[←HN.out];exact List.take_length] at hF
    have HF:Hid (idxI a cl= -1):=idx_none a cl hF
    have HB:=Lib.hid HH.out.1
    clear hF HH
    go_wp2
    go_ret
    rw[HF.out]
    exact⟨rfl,HB.out⟩
set_option maxRecDepth 100000 in
set_option maxHeartbeats 4000000 in
theorem pnumber_any {w:World} {v1 v2 vv cv:Value} {z:Zn} {a r:Int} {vals consts:List Int} (hz:ZoneIn w v1 v2 z.1 z.2) (hvv:RdK w 1 vv vals.length (ints vals)) (hcv:Reads w cv (ints consts)) (hc:consts.length≤12) (hv:vals.length≤1000) (hcl:z.1.length≤1000)
 (hI:∀ x ∈ vals ++consts,In64 x) (hG:∀ g ∈ z.2,0≤g∧g≤1099511627776) :
 Calls Tryz.prog 28 #[.agg #[v1,v2],.int .i64 a,vv,cv,.int .i64 r] w fun e w'=>e=.returned (besV (numZ z a vals (sortS consts) r))∧Below w.heap.size w w':=by
 obtain⟨cl,gl⟩:=z
 dsimp only at hz hcl hG
 obtain⟨ad1,k1,rfl⟩:=hz.1.len
 obtain⟨ad2,k2,rfl⟩:=hz.2.len
 obtain⟨ad3,k3,rfl⟩:=hvv.len
 obtain⟨ad4,k4,rfl,-⟩:=hcv.len
 obtain⟨n,hn⟩:∃ n,cl.length=n:=⟨_,rfl⟩
 obtain⟨m,hm⟩:∃ m,gl.length=m:=⟨_,rfl⟩
 obtain⟨m3,hm3⟩:∃ m,vals.length=m:=⟨_,rfl⟩
 obtain⟨m4,hm4⟩:∃ m,(ints consts).length=m:=⟨_,rfl⟩
 rw[hn] at hz;rw[hm] at hz;rw[hm3] at hvv;rw[hm4] at hcv
 rw[hn,hm,hm3,hm4]
 obtain⟨W1,hW1⟩:∃ W1,w.alloc (.cells #[.slice ad1 n k1,.slice ad2 m k2] 28)=W1:=⟨_,rfl⟩
 have hb1:Below w.heap.size w W1:=by rw[←hW1];exact(Below.refl _ _).alloc (Nat.le_refl _) _
 have hs1:W1.heap.size=w.heap.size+1:=by rw[←hW1];simp
 have x1:Blk W1 w.heap.size #[.slice ad1 n k1,.slice ad2 m k2] 28:=by rw[←hW1];exact Blk.new _ _ _
 obtain⟨W2,hW2⟩:∃ W2,W1.alloc (.cells #[.int .i64 a] 3)=W2:=⟨_,rfl⟩
 have x2:Blk W2 (W1.heap.size) #[.int .i64 a] 3:=by rw[←hW2];exact Blk.new _ _ _
 have hb2:Below w.heap.size w W2:=by rw[←hW2];exact hb1.alloc (by omega) _
 have x12:Blk W2 w.heap.size #[.slice ad1 n k1,.slice ad2 m k2] 28:=by rw[←hW2];exact x1.alloc _
 have hz1:=hz.1
 have c0:=x12.two.1
 have HIX:Hid (Calls Tryz.prog 59 #[.slice ad1 n k1,.func (.func 60) #[] #[.pointer (some ⟨W1.heap.size,0,none⟩)]] W2 fun e w'=>e=.returned (.int .i64 (idxI a cl))∧Below W2.heap.size W2 w'):=indexP_any (hz1.below hb2) x2 (by omega)
 have HB2:=Lib.hid hb2
 have HZ:Hid (ZoneIn w (.slice ad1 n k1) (.slice ad2 m k2) cl gl):=hz
 have HVV:Hid (RdK w 1 (.slice ad3 m3 k3) vals.length (ints vals)):=by unfold Hid;rw[←hm3] at hvv ⊢;exact hvv
 have HCV:=Lib.hid hcv
 have HX:=Lib.hid x12;have HX2:=Lib.hid x2
 have HN:=Lib.hid hn
 have HI:=Lib.hid hI;have HG:=Lib.hid hG
 clear hz hvv hcv hb1 x1 hb2 x12 x2 hz1 hm hm3 hm4 hn hI hG hs1
 by_cases hat:atZ a cl < cl.length
 · have hix:idxI a cl= ((atZ a cl:Nat):Int):=by unfold idxI;rw[if_pos hat]
   have HU:Hid (numZ (cl,gl) a vals (sortS consts) r=numF cl gl (atZ a cl) a (kap r) vals (sortS consts)):=numZ_F (cl,gl) a vals _ r hat
   rw[hix] at HIX
   obtain⟨i,hi⟩:∃ i,atZ a cl=i:=⟨_,rfl⟩
   rw[hi] at HIX HU hat
   have hi0:¬(i:Int) < 0:=by omega
   have HAT:=Lib.hid hat
   clear hix hi hat
   go_enter Tryz.func28,Tryz.ntmps28
   go_wp2_with fail
   refine HIX.out.mono ?_
   rintro e w3 ⟨rfl,hb3⟩
   have y1:=(HX.out.keep hb3).two
   have y2:w3.cell? ⟨W1.heap.size,0,none⟩ = some (.int .i64 a):=(HX2.out.keep hb3).cell rfl
   obtain⟨s0,s1⟩:=y1
   have HB3:=Lib.hid (HB2.out.trans (hb3.mono HB2.out.size))
   have HCP:Hid (∀ W,Calls Tryz.prog 19 #[.int .i64 r] W fun e w'=>e=.returned (.int .i64 (kap r))∧W=w'):=fun W=>cap_any r W
   obtain⟨K,hK⟩:∃ K:Int,(kap r:Int)=K:=⟨_,rfl⟩
   rw[hK] at HCP HU
   have HSF:Hid (∀ W,Below w3.heap.size w3 W→W.cell? ⟨w.heap.size,0,none⟩ = some (.slice ad1 n k1)∧W.cell? ⟨w.heap.size,1,none⟩ = some (.slice ad2 m k2)∧W.cell? ⟨W1.heap.size,0,none⟩ = some (.int .i64 a)):=fun W hW=>⟨((HX.out.keep hb3).keep hW).two.1,((HX.out.keep hb3).keep hW).two.2,((HX2.out.keep hb3).keep hW).cell rfl⟩
   have hbz:Below w3.heap.size w3 w3.drew:=(Below.refl _ _).drew
   clear hb3 hW1 hW2 c0 hK
   go_upto_region 4 with fail
   go_cut [13] (fun v13 wx=>∃ bf,v13=.pointer (some ⟨bf,0,none⟩)∧Hid (Below w3.heap.size w3 wx∧Blk wx bf #[.slice ad1 n k1,.slice ad2 m k2,.int .i64 a,.int .i64 K,.slice ad3 m3 k3,.slice ad4 m4 k4] 88))
   case first=>
    go_region_held3 (fun w'=>w'.cell? ⟨w.heap.size,0,none⟩ = some (.slice ad1 n k1)∧w'.cell? ⟨w.heap.size,1,none⟩ = some (.slice ad2 m k2)∧w'.cell? ⟨W1.heap.size,0,none⟩ = some (.int .i64 a))
     (first|exact HSF.out _ (by assumption)|go_keep)
     (first
       | (go_simp;go_at_call 19;(with_reducible refine(HCP.out _).mono ?_);rintro e w5 ⟨rfl,rfl⟩))
    all_goals
     go_wp2_with fail
     go_meet
     exact⟨_,rfl,hbz.alloc (Nat.le_refl _) _,Blk.new _ _ _⟩
   case rest=>
    clear HSF HCP hbz s0 s1 y2
    obtain⟨bf,rfl,HH⟩:=hcut
    have hbx:=HB3.out.trans (HH.out.1.mono HB3.out.size)
    have HBX:=Lib.hid hbx
    have HFN:Hid (Fnd wc bf cl gl a K vals consts):=⟨⟨_,_,_,_,HH.out.2,HZ.out.below hbx,HVV.out.below hbx,HCV.out.below (Nat.le_refl _) hbx⟩⟩
    have HNB:=Lib.hid (fnumber_any HFN.out hc hv i HAT.out hcl HI.out HG.out)
    clear hbx HH
    go_wp2_with fail
    refine HNB.out.mono ?_
    rintro e w6 ⟨rfl,hb6⟩
    have HB6:=Lib.hid (HBX.out.trans (hb6.mono HBX.out.size))
    unfold besV
    clear hb6
    go_wp2_with fail
    go_ret2
    rw[HU.out]
    exact⟨rfl,HB6.out⟩
 · have hix:idxI a cl= -1:=by unfold idxI;rw[if_neg hat]
   have HU:Hid (numZ (cl,gl) a vals (sortS consts) r= (0,12)):=by unfold Hid numZ;rw[if_pos (show cl.length≤atZ a cl by omega)]
   rw[hix] at HIX
   clear hix hat
   go_enter Tryz.func28,Tryz.ntmps28
   go_wp2_with fail
   refine HIX.out.mono ?_
   rintro e w3 ⟨rfl,hb3⟩
   have HB3:=Lib.hid (HB2.out.trans (hb3.mono HB2.out.size))
   clear hb3
   go_wp2_with fail
   go_ret2
   rw[HU.out]
   exact⟨rfl,HB3.out⟩
end Go.Proofs.YtkkoooagamadjaaGreatDoor
