import Derived.Test.YtkkoooagamadjaaGreatDoorPk41
namespace Go.Proofs.YtkkoooagamadjaaGreatDoor
open Go.RowKit Go.Shelf
def PkEq (tz:Zn) (cs l:List Int) (P0:List Int × Int) (k:Nat) (zk:Zn) (now out:List Int) (r:Int):Prop:=
 P0= (out ++ (pickZ tz cs (l.drop k) zk now (r - k)).1,(pickZ tz cs (l.drop k) zk now (r - k)).2)
theorem list_drop_at {l:List Int} {k:Nat} {a:Int} (h:l[k]?=some a):l.drop k=a :: l.drop (k+1):=by
 obtain⟨h1,h2⟩:=List.getElem?_eq_some_iff.1 h
 rw[List.drop_eq_getElem_cons h1,h2]
set_option maxRecDepth 100000 in
set_option maxHeartbeats 8000000 in
theorem pvals_any {w:World} (ht:PTab w) {z1 z2 t1 t2 lv vv cv:Value} {tz:Zn} {l vals consts:List Int} (r:Int) (hz:ZoneIn w z1 z2 (ofZ vals consts r).1 (ofZ vals consts r).2) (hcz:CapV z1∧CapV z2) (hto:ZoneIn w t1 t2 tz.1 tz.2) (hst:SmallZ tz) (hlv:RdK w 1 lv l.length (ints l)) (hcl:CapV lv)
 (hvv:Reads w vv (ints vals)) (hcv:Reads w cv (ints consts)) (hv4:vals.length≤4) (hc4:consts.length≤4) (hl2:l.length≤2) (hi:∀ a ∈ l,∃ k:Nat,a=k∧k < vals.length) (hr3:r≤3) (hr0:-9223372036854775808≤r) (hI:∀ x ∈ vals ++consts,In64 x) :
 Calls Tryz.prog 13 #[.agg #[z1,z2],.agg #[t1,t2],lv,vv,cv,.int .i64 r] w fun e w'=>∃ v',e=.returned (.tuple #[v',.int .i64 (valsZ (ofZ vals consts r) tz l vals (sortS consts) r).2])∧RdK w' 1 v' (valsZ (ofZ vals consts r) tz l vals (sortS consts) r).1.length (ints (valsZ (ofZ vals consts r) tz l vals (sortS consts) r).1)∧Below w.heap.size w w':=by
 obtain⟨a1,k1,e1⟩:=hz.1.len
 obtain⟨a2,k2,e2⟩:=hz.2.len
 obtain⟨a3,k3,e3⟩:=hto.1.len
 obtain⟨a4,k4,e4⟩:=hto.2.len
 obtain⟨la,lc,e5⟩:=hlv.len
 obtain⟨va,vc,e6,-⟩:=hvv.len
 obtain⟨ca,cc,e7,-⟩:=hcv.len
 obtain⟨W1,hW1⟩:∃ W1,w.alloc (.cells #[z1,z2] 28)=W1:=⟨_,rfl⟩
 obtain⟨W2,hW2⟩:∃ W2,W1.alloc (.cells #[t1,t2] 28)=W2:=⟨_,rfl⟩
 obtain⟨W3,hW3⟩:∃ W3,W2.alloc (.cells #[lv] 26)=W3:=⟨_,rfl⟩
 obtain⟨W4,hW4⟩:∃ W4,W3.alloc (.cells #[.int .i64 r] 3)=W4:=⟨_,rfl⟩
 have hs1:W1.heap.size=w.heap.size+1:=by rw[←hW1];simp
 have hs2:W2.heap.size=w.heap.size+2:=by rw[←hW2];simp[hs1]
 have hs3:W3.heap.size=w.heap.size+3:=by rw[←hW3];simp[hs2]
 have hs4:W4.heap.size=w.heap.size+4:=by rw[←hW4];simp[hs3]
 have hb12:Below W1.heap.size W1 W2:=by rw[←hW2];exact(Below.refl _ _).alloc (Nat.le_refl _) _
 have hb23:Below W2.heap.size W2 W3:=by rw[←hW3];exact(Below.refl _ _).alloc (Nat.le_refl _) _
 have hb34:Below W3.heap.size W3 W4:=by rw[←hW4];exact(Below.refl _ _).alloc (Nat.le_refl _) _
 have hb4:Below w.heap.size w W4:=by
  have h1:Below w.heap.size w W1:=by rw[←hW1];exact(Below.refl _ _).alloc (Nat.le_refl _) _
  exact((h1.trans (hb12.mono (by omega))).trans (hb23.mono (by omega))).trans (hb34.mono (by omega))
 have xz:Blk W4 w.heap.size #[z1,z2] 28:=by
  have h1:Blk W1 w.heap.size #[z1,z2] 28:=by rw[←hW1];exact Blk.new _ _ _
  exact((h1.keep hb12).keep hb23).keep hb34
 have xt:Blk W4 W1.heap.size #[t1,t2] 28:=by
  have h1:Blk W2 W1.heap.size #[t1,t2] 28:=by rw[←hW2];exact Blk.new _ _ _
  exact(h1.keep hb23).keep hb34
 have xl:Blk W4 W2.heap.size #[lv] 26:=by
  have h1:Blk W3 W2.heap.size #[lv] 26:=by rw[←hW3];exact Blk.new _ _ _
  exact h1.keep hb34
 have xr:Blk W4 W3.heap.size #[.int .i64 r] 3:=by rw[←hW4];exact Blk.new _ _ _
 have HCM:=Lib.hid (comes_any (ht.keep hb4) r (hz.below hb4) hcz (hto.below hb4) (of_sm vals consts r hv4 hc4).1 hst (hlv.below hb4) (by omega) (pk_ok vals consts l r hv4 hc4 hl2 hi hr3 hr0))
 have HCLN:=Lib.hid (fun W (hW:Below w.heap.size w W)=>clone64_any (hvv.below (Nat.le_refl _) hW) (by omega:vals.length≤1000))
 have c0:=xz.two.1;have c1:=xz.two.2;have c2:=xt.two.1;have c3:=xt.two.2
 have c4:W4.cell? ⟨W2.heap.size,0,none⟩ = some lv:=xl.cell rfl
 have c5:W4.cell? ⟨W3.heap.size,0,none⟩ = some (.int .i64 r):=xr.cell rfl
 have HB4:=Lib.hid hb4;have XZ:=Lib.hid xz;have XT:=Lib.hid xt;have XL:=Lib.hid xl;have XR:=Lib.hid xr
 have HZ:=Lib.hid hz;have HCZ:=Lib.hid hcz;have HTO:=Lib.hid hto;have HLV:=Lib.hid hlv;have HCL:=Lib.hid hcl;have HCV:=Lib.hid hcv;have HT:=Lib.hid ht
 have HSZ:Hid (W1.heap.size=w.heap.size+1∧W2.heap.size=w.heap.size+2∧W3.heap.size=w.heap.size+3∧W4.heap.size=w.heap.size+4):=⟨hs1,hs2,hs3,hs4⟩
 have HI:=Lib.hid hI;have HII:=Lib.hid hi;have HST:=Lib.hid hst
 obtain⟨n,hn⟩:∃ n,l.length=n:=⟨_,rfl⟩
 have HN:=Lib.hid hn
 obtain⟨zl1,hzl1⟩:∃ n,(ofZ vals consts r).1.length=n:=⟨_,rfl⟩
 obtain⟨zl2,hzl2⟩:∃ n,(ofZ vals consts r).2.length=n:=⟨_,rfl⟩
 obtain⟨zl3,hzl3⟩:∃ n,tz.1.length=n:=⟨_,rfl⟩
 obtain⟨zl4,hzl4⟩:∃ n,tz.2.length=n:=⟨_,rfl⟩
 obtain⟨vl,hvl⟩:∃ n,(ints vals).length=n:=⟨_,rfl⟩
 obtain⟨cl',hcl'⟩:∃ n,(ints consts).length=n:=⟨_,rfl⟩
 rw[hzl1] at e1;rw[hzl2] at e2;rw[hzl3] at e3;rw[hzl4] at e4;rw[hn] at e5 hl2;rw[hvl] at e6;rw[hcl'] at e7
 clear hz hcz hto hlv hcl hvv hcv hb12 hb23 hb34 hb4 xz xt xl xr hs1 hs2 hs3 hs4 hst hI hi hzl1 hzl2 hzl3 hzl4 hvl hcl' ht hn
 subst e1;subst e2;subst e3;subst e4;subst e5;subst e6;subst e7
 by_cases hin:tz ∈ writeG r l [ofZ vals consts r]
 rotate_left
 · have HU:Hid (valsZ (ofZ vals consts r) tz l vals (sortS consts) r= ([],12)):=by unfold Hid valsZ;rw[if_neg hin]
   rw[decide_eq_false hin] at HCM
   clear hin
   go_enter Tryz.func13,Tryz.ntmps13
   go_wp2_with fail
   clear c0 c1 c2 c3 c4 c5 hW1 hW2 hW3 hW4
   refine HCM.out.mono ?_
   rintro e w5 ⟨rfl,hb5⟩
   have HB5:=Lib.hid (HB4.out.trans (hb5.mono HB4.out.size))
   clear hb5
   go_wp2_with fail
   go_ret2
   rw[HU.out]
   exact⟨_,rfl,RdK.zero _ 1 _ 0,HB5.out⟩
 · obtain⟨P0,hP0⟩:∃ P0,pickZ tz (sortS consts) l (ofZ vals consts r) vals r=P0:=⟨_,rfl⟩
   have HU:Hid (valsZ (ofZ vals consts r) tz l vals (sortS consts) r=if P0.2=0 then(P0.1,0) else([],P0.2)):=by
    unfold Hid valsZ;rw[if_pos hin,hP0]
   have hr1:l≠[]→1≤r:=by
    intro hne
    by_cases q:r < 1
    · rw[writeG_none _ _ _ q hne] at hin;cases hin
    · omega
   have HR1:=Lib.hid hr1
   have HP0:=Lib.hid hP0
   rw[decide_eq_true hin] at HCM
   clear hin hr1 hP0
   go_enter Tryz.func13,Tryz.ntmps13
   go_wp2_with fail
   clear c0 c1 c2 c3 c4 c5 hW1 hW2 hW3 hW4
   refine HCM.out.mono ?_
   rintro e w5 ⟨rfl,hb5⟩
   have HB5:=Lib.hid (HB4.out.trans (hb5.mono HB4.out.size))
   have HC5:=Lib.hid hb5
   clear hb5 HCM
   go_wp2_with fail
   refine(HCLN.out w5 HB5.out).mono ?_
   rintro e w6 ⟨nv,rfl,hnow,hb6⟩
   obtain⟨na,nc,hnv⟩:=owns_len hnow
   have hb46:=HC5.out.trans (hb6.mono HC5.out.size)
   have hs46:=HC5.out.size
   have hnlt:∀ k,nv.ownBlock=some k→k < w6.heap.size:=fun k hk=>(hnow.lt k hk).2
   have hvs:VS w w5.heap.size w6.heap.size [(W1.heap.size,#[.slice a3 zl3 k3,.slice a4 zl4 k4],28),(W2.heap.size,#[.slice la n lc],26),(W3.heap.size,#[.int .i64 r],3)] (.slice a1 zl1 k1) (.slice a2 zl2 k2) nv (.slice none 0 0) (ofZ vals consts r) vals [] w6:=by
    refine⟨XZ.out.keep hb46,.inl ⟨HZ.out,HCZ.out⟩,hnow,World.ownsRow_nil _ _ _ _,hnlt,?_,HB5.out.trans (hb6.mono HB5.out.size),by have:=HSZ.out;omega,hb6.size,Nat.le_refl _⟩
    intro x hx
    obtain⟨q1,q2,q3,q4⟩:=HSZ.out
    simp only[List.mem_cons,List.not_mem_nil,or_false] at hx
    rcases hx with rfl|rfl|rfl
    · exact⟨by dsimp only;omega,by dsimp only;omega,XT.out.keep hb46⟩
    · exact⟨by dsimp only;omega,by dsimp only;omega,XL.out.keep hb46⟩
    · exact⟨by dsimp only;omega,by dsimp only;omega,XR.out.keep hb46⟩
   have HVS:=Lib.hid hvs
   have hlb:=(hvs.bxs (W2.heap.size,#[.slice la n lc],26) (by simp)).2.2
   have c4:w6.cell? ⟨W2.heap.size,0,none⟩ = some (.slice la n lc):=hlb.cell rfl
   obtain⟨bx,hbx⟩:∃ bx:List (Nat × Array Value × TypeId),[(W1.heap.size,#[.slice a3 zl3 k3,.slice a4 zl4 k4],28),(W2.heap.size,#[.slice la n lc],26),(W3.heap.size,#[.int .i64 r],3)]=bx:=⟨_,rfl⟩
   rw[hbx] at HVS
   have HBX:=Lib.hid hbx
   have HP1:Hid (PkEq tz (sortS consts) l P0 0 (ofZ vals consts r) vals [] r):=by
    unfold Hid PkEq
    rw[List.drop_zero,List.nil_append,show r - ((0:Nat):Int)=r by omega,HP0.out]
   obtain⟨vn,hvn⟩:∃ n,vals.length=n:=⟨_,rfl⟩
   rw[hvn] at hnv
   have HVN:=Lib.hid hvn
   obtain⟨B,hB⟩:∃ B,w5.heap.size=B:=⟨_,rfl⟩
   obtain⟨B2,hB2⟩:∃ B2,w6.heap.size=B2:=⟨_,rfl⟩
   rw[hB,hB2] at HVS
   subst hnv
   clear hnow hb6 hb46 hs46 hnlt hvs hlb hbx hvn hB hB2 HP0 HC5 HB5 XZ XT XL XR HZ HCZ HSZ HCLN
   go_wp2_with fail
   clear c4
   go_loopw [14,32] (fun ov i wr=>∃ (k q c:Nat) (ad:Option Addr) (y1 y2:Value) (now out:List Int),i=.int .i64 k∧k≤n∧ov=.slice ad q c∧q≤2∧Hid (VS w B B2 bx y1 y2 (.slice na vn nc) (.slice ad q c) (ofZ now consts (r - k)) now out wr)∧Hid (out.length=q∧q=k∧now.length=vals.length∧∀ x ∈ now,In64 x)∧Hid (PkEq tz (sortS consts) l P0 k (ofZ now consts (r - k)) now out r)) (fun _ i _=>n - (intOf i).toNat)
   case atStart=>exact⟨0,0,0,none,_,_,vals,[],rfl,Nat.zero_le _,rfl,by omega,by unfold Hid;rw[show r - ((0:Nat):Int)=r by omega];exact HVS.out,⟨rfl,rfl,rfl,fun x hx=>HI.out x (List.mem_append_left _ hx)⟩,by unfold Hid;rw[show r - ((0:Nat):Int)=r by omega];exact HP1.out⟩
   case round=>
    clear HVS HP1
    obtain⟨k,q,c,ad,y1,y2,now,out,rfl,hk,rfl,hq2,HVS,HF,HPE⟩:=hrel
    by_cases hlt:k < n
    rotate_left
    · obtain rfl:k=n:=by omega
      have hP:P0= (out,0):=by
       have:=HPE.out
       unfold PkEq at this
       rw[List.drop_of_length_le (by rw[HN.out];exact Nat.le_refl _),pickZ] at this
       rw[this];simp
      have HUU:Hid (valsZ (ofZ vals consts r) tz l vals (sortS consts) r= (out,0)):=by unfold Hid;rw[HU.out,hP];simp
      have HOU:=Lib.hid (RdK.of_owns HVS.out.ou)
      have HLW:=Lib.hid HVS.out.low
      clear hP
      go_wp2_with fail
      go_ret2
      rw[HUU.out]
      exact⟨_,rfl,HOU.out,HLW.out⟩
    · have hkn: (k:Int) < (n:Int):=by omega
      have hk0: (0:Int)≤(k:Int):=by omega
      have hkl:k < l.length:=by rw[HN.out];exact hlt
      obtain⟨a,ha⟩:∃ a,l[k]?=some a:=⟨_,List.getElem?_eq_getElem hkl⟩
      obtain⟨ak,rfl,hak⟩:=HII.out a (List.mem_of_getElem? ha)
      have hr1:=HR1.out (fun e=>by rw[e] at hkl;simp at hkl)
      obtain⟨hoq,hqk,hnl,hnI⟩:=HF.out
      have hrl:=HLV.out.below HVS.out.low
      have HRL:=Lib.hid hrl
      obtain⟨lb,lo,lc',hlsh⟩:=rdk_shape hrl (by omega)
      simp only[Value.slice.injEq] at hlsh
      obtain⟨rfl,-,rfl⟩:=hlsh
      obtain⟨lb',lo',hlq,hlb,hlcell⟩:=hrl.at (by omega)
      cases hlq
      have d0:wr.cell? ⟨lb,lo+k,none⟩ = some (.int .i64 ak):=hlcell k _ (by unfold ints;rw[List.getElem?_map,ha];rfl)
      obtain⟨hr2,hr3',hr4,hr5⟩:=wrapR r k (by omega) (by omega) (by omega)
      have hdrop:=list_drop_at ha
      have hwk1:IntKind.i64.wrap ((k:Int)+1)= ((k+1:Nat):Int):=by rw[show(k:Int)+1= ((k+1:Nat):Int) by omega];exact IntWalk.i64_in _ ⟨by omega,by omega⟩
      have hR1:0≤r - (k:Int)∧r - (k:Int)≤3:=by omega
      obtain⟨f1,f2⟩:=pk_write now consts ak (r - k) (by omega) hc4 (by omega) (by omega)
      have hkp:=kap_w4 (r - k) (by omega)
      have hlen145: (wrOne ak (r - k) (ofZ now consts (r - k))).length≤200:=by
       have: (kap (r - k - 1)+1) * (kap (r - k - 1)+1)≤4 * 4:=Nat.mul_le_mul (by omega) (by omega)
       omega
      have hzin:=HVS.out.zin
      obtain⟨ya1,yk1,ey1⟩:=hzin.1.1.len
      obtain⟨ya2,yk2,ey2⟩:=hzin.1.2.len
      have hlz:=ofZ_len now consts (r - k)
      obtain⟨nb,rfl,hns⟩:∃ nb,na=some ⟨nb,0,none⟩∧B≤nb:=by
       obtain⟨g,cap',e1,e2,_⟩:=owns_shape HVS.out.nw (by omega)
       simp only[Value.slice.injEq] at e1
       exact⟨g,e1.1,e2⟩
      subst ey1;subst ey2
      obtain⟨Wi,hWi⟩:∃ Wi,wr.alloc (.cells #[.int .i64 k] 3)=Wi:=⟨_,rfl⟩
      have hbi:Below wr.heap.size wr Wi:=by rw[←hWi];exact(Below.refl _ _).alloc (Nat.le_refl _) _
      have xi:Blk Wi wr.heap.size #[.int .i64 k] 3:=by rw[←hWi];exact Blk.new _ _ _
      have hvi:=HVS.out.below hbi
      have hbt:Blk Wi W1.heap.size #[.slice a3 zl3 k3,.slice a4 zl4 k4] 28:=(hvi.bxs (W1.heap.size,#[.slice a3 zl3 k3,.slice a4 zl4 k4],28) (by rw[←HBX.out];simp)).2.2
      have hbl:Blk Wi W2.heap.size #[.slice (some ⟨lb,lo,none⟩) n lc] 26:=(hvi.bxs (W2.heap.size,#[.slice (some ⟨lb,lo,none⟩) n lc],26) (by rw[←HBX.out];simp)).2.2
      have hbr:Blk Wi W3.heap.size #[.int .i64 r] 3:=(hvi.bxs (W3.heap.size,#[.int .i64 r],3) (by rw[←HBX.out];simp)).2.2
      obtain⟨Z,hZ⟩:∃ Z,ofZ now consts (r - k)=Z:=⟨_,rfl⟩
      obtain⟨m1,hm1⟩:∃ n,(ofZ now consts (r - k)).1.length=n:=⟨_,rfl⟩
      obtain⟨m2,hm2⟩:∃ n,(ofZ now consts (r - k)).2.length=n:=⟨_,rfl⟩
      rw[hm1] at hvi;rw[hm2] at hvi
      have HSF:Hid (∀ W',Below Wi.heap.size Wi W'→W'.cell? ⟨w.heap.size,0,none⟩ = some (.slice ya1 m1 yk1)∧W'.cell? ⟨w.heap.size,1,none⟩ = some (.slice ya2 m2 yk2)∧W'.cell? ⟨W3.heap.size,0,none⟩ = some (.int .i64 r)∧W'.cell? ⟨wr.heap.size,0,none⟩ = some (.int .i64 k)):=fun W' hW=>
       ⟨(hvi.box.keep hW).two.1,(hvi.box.keep hW).two.2,(hbr.keep hW).cell rfl,(xi.keep hW).cell rfl⟩
      obtain⟨s0,s1,s2,s3⟩:=HSF.out Wi (Below.refl _ _)
      have hzi:=hvi.zin
      have HDR:Hid (∀ W',Below Wi.heap.size Wi W'→Calls Tryz.prog 21 #[.agg #[.slice ya1 m1 yk1,.slice ya2 m2 yk2],.int .i64 ak,.int .i64 (r - k)] W' fun e w'=>∃ g1 cap1 g2 cap2,e=.returned (.agg #[.slice (some ⟨g1,0,none⟩) (dropZ ak (r - k) Z.1 Z.2).1.length cap1,.slice (some ⟨g2,0,none⟩) (dropZ ak (r - k) Z.1 Z.2).2.length cap2])∧
       ZoneAt w' W'.heap.size (.slice (some ⟨g1,0,none⟩) (dropZ ak (r - k) Z.1 Z.2).1.length cap1) (.slice (some ⟨g2,0,none⟩) (dropZ ak (r - k) Z.1 Z.2).2.length cap2) (dropZ ak (r - k) Z.1 Z.2).1 (dropZ ak (r - k) Z.1 Z.2).2∧Below W'.heap.size W' w'):=by
       intro W' hW
       rw[←hZ]
       exact dropI_any _ _ _ _ ak (r - k) W' (hzi.1.below hW) (by omega) (by omega)
      obtain⟨t1',t2'⟩:=dropZ_len ak (r - k) Z.1 Z.2
      rw[←hZ,hm1] at t1'
      rw[hZ] at t1'
      obtain⟨D,hD⟩:∃ D,dropZ ak (r - k) Z.1 Z.2=D:=⟨_,rfl⟩
      have hone:wrOne ak (r - k) Z=putL D.1 D.2 ak (r - k):=by unfold wrOne;rw[hD]
      rw[hD] at HDR t1'
      have hd60:D.1.length≤60:=by omega
      have hR6:r - (k:Int)≤6:=by omega
      obtain⟨ZS,hZS⟩:∃ ZS,wrOne ak (r - k) Z=ZS:=⟨_,rfl⟩
      rw[hZ] at f1 f2 hlen145
      rw[hZS] at f1 f2 hlen145 hone
      obtain⟨p,hp⟩:∃ p,ZS.length=p:=⟨_,rfl⟩
      rw[hp] at hlen145
      have HPL:=Lib.hid hp
      have HPU:Hid (∀ (W':World) (u1 u2:Value),ZoneIn W' u1 u2 D.1 D.2→Calls Tryz.prog 20 #[.agg #[u1,u2],.int .i64 ak,.int .i64 (r - k)] W' fun e w'=>∃ v',e=.returned v'∧ZonesAt w' W'.heap.size v' ZS∧Below W'.heap.size W' w'):=by
       intro W' u1 u2 hu
       rw[hone]
       exact putZ_any hu hd60 hR6
      have HKL:=Lib.hid hkl
      have HF2:Hid (∀ x ∈ ZS,∃ x0,x=ofZ (now.set ak x0) consts (r - k - 1)):=f2
      have HWZ:Hid (wrOne ak (r - k) (ofZ now consts (r - k))=ZS):=by unfold Hid;rw[hZ,hZS]
      have HNL:=Lib.hid hnl;have HNI:=Lib.hid hnI
      have hbz:Below Wi.heap.size Wi Wi.drew:=(Below.refl _ _).drew
      have HVI:=Lib.hid hvi;have HXI:=Lib.hid xi;have HBT:=Lib.hid hbt;have HBL:=Lib.hid hbl;have HBR:=Lib.hid hbr
      have HDP:=Lib.hid hdrop;have HA:=Lib.hid ha
      have hakv: (ak:Int) < (vn:Int):=by rw[←HVN.out];omega
      have HOQ:=Lib.hid hoq;have HQK:=Lib.hid hqk
      have HAK:=Lib.hid hak
      have HRB:=Lib.hid (And.intro hr1 hR1)
      have HWI:Hid (Below wr.heap.size wr Wi):=hbi
      clear f1 f2 hrl hlb hlcell hdrop hzin hlz hbi xi hvi hbt hbl hbr hm1 hm2 hzi t1' t2' hD hone hZS hp hnl hnI ha hoq hqk hkl hak HF hZ hd60 hR6 hkp
      go_upto_region 8 with fail
      go_cut [18] (fun v18 wx=>∃ (xp:Option Addr) (cp:Nat),v18=.slice xp p cp∧Hid (Below Wi.heap.size Wi wx∧ZonesAt wx Wi.heap.size (.slice xp p cp) ZS))
      case first=>
       go_region_held3 (fun w'=>w'.cell? ⟨w.heap.size,0,none⟩ = some (.slice ya1 m1 yk1)∧w'.cell? ⟨w.heap.size,1,none⟩ = some (.slice ya2 m2 yk2)∧w'.cell? ⟨W3.heap.size,0,none⟩ = some (.int .i64 r)∧w'.cell? ⟨wr.heap.size,0,none⟩ = some (.int .i64 k))
        (first|exact HSF.out _ (by assumption)|go_keep)
        (first
          | (go_simp;go_at_call 21;(with_reducible refine(HDR.out _ (by assumption)).mono ?_)
             rintro e w7 ⟨g1,cp1,g2,cp2,rfl,hzd,hbs⟩
             have hbz:=hbz.trans (hbs.mono hbz.size)
             clear hbs)
          | (go_simp;go_at_call 20;(with_reducible refine(HPU.out _ _ _ (ZoneIn.of_at hzd)).mono ?_)
             rintro e w8 ⟨vp,rfl,hzp,hbs⟩
             obtain⟨xp,cp,hvp⟩:=hzp.len
             rw[HPL.out] at hvp
             subst hvp
             have hzq:ZonesAt w8 Wi.heap.size (.slice xp p cp) ZS:=hzp.mono hbz.size
             have hbz:=hbz.trans (hbs.mono hbz.size)
             clear hbs hzp))
       all_goals
        go_wp2_with fail
        go_meet
        exact⟨_,_,rfl,hbz,hzq⟩
      case rest=>
       clear HSF HDR HPU hbz s0 s1 s2 s3 d0 hWi
       obtain⟨xp,cp,rfl,HH⟩:=hcut
       obtain⟨wx,rfl⟩:∃ w0,w0=wc:=⟨_,rfl⟩
       have hvx:=HVI.out.below HH.out.1
       have HXB:=Lib.hid HH.out.1
       have HIX:=Lib.hid (indexV_any (HT.out.keep hvx.low) k r HH.out.2.zis (HBT.out.keep HH.out.1) (HBL.out.keep HH.out.1) (HXI.out.keep HH.out.1) (HBR.out.keep HH.out.1) (HTO.out.below hvx.low) HST.out (HLV.out.below hvx.low) HCL.out HKL.out (by rw[HN.out];omega) (by have:=HRB.out.1;omega) (by omega) (fun x hx=>by
        obtain⟨x0,rfl⟩:=HF2.out x hx
        have hls: (now.set ak x0).length≤4:=by rw[List.length_set,HNL.out];exact hv4
        refine⟨(of_sm _ _ _ hls hc4).1,pk_ok _ _ _ _ hls hc4 (by rw[List.length_drop,HN.out];omega) (fun b hb=>?_) (by omega) (by have:=HRB.out;omega)⟩
        obtain⟨m,e,hm⟩:=HII.out b (List.mem_of_mem_drop hb)
        exact⟨m,e,by rw[List.length_set,HNL.out];exact hm⟩) (by rw[HPL.out];omega))
       have HVX:=Lib.hid hvx
       have HZX:=Lib.hid HH.out.2
       clear hvx HH
       go_wp2_with fail
       refine HIX.out.mono ?_
       rintro e w8 ⟨hfst,hb8⟩
       have HV8:=Lib.hid (HVX.out.below hb8)
       have HZ8:=Lib.hid (HZX.out.below hb8)
       have HB8W:=Lib.hid (HXB.out.trans (hb8.mono HXB.out.size))
       clear hb8 HIX
       unfold FstP at hfst
       rcases hfst with⟨hnone,rfl⟩ | ⟨kx,x,hkx,hfind,rfl⟩
       · have HUU:Hid (valsZ (ofZ vals consts r) tz l vals (sortS consts) r= ([],12)):=by
          have hp:=HPE.out
          unfold PkEq at hp
          rw[HDP.out,pick_none tz (sortS consts) ak (l.drop (k+1)) (ofZ now consts (r - k)) now (r - k) (by rw[HWZ.out];exact hnone)] at hp
          unfold Hid
          rw[HU.out,hp];simp
         clear hnone
         go_wp2_with fail
         go_ret2
         rw[HUU.out]
         exact⟨_,rfl,RdK.zero _ 1 _ 0,HV8.out.low⟩
       · have hkx0:¬(kx:Int) < 0:=by omega
         have hkxl:=(List.getElem?_eq_some_iff.1 hkx).1
         rw[HPL.out] at hkxl
         have hkxp: (kx:Int) < (p:Int):=by omega
         have hkx0': (0:Int)≤(kx:Int):=by omega
         have hnak:¬(vn:Int)≤(ak:Int):=by omega
         obtain⟨g,u1,u2,hxa,-,f0,f1,hza⟩:=HZ8.out.at hkx
         subst hxa
         have HZG:Hid (g < w8.heap.size):=by
          obtain⟨ps,hl,hr,-⟩:=HZ8.out
          exact(hr.lt g rfl).2
         obtain⟨b1,m3,hu1⟩:=owns_len hza.1
         obtain⟨b2,m4,hu2⟩:=owns_len hza.2
         obtain⟨x0,hx0⟩:=HF2.out x (List.mem_of_getElem? hkx)
         have hls: (now.set ak x0).length≤4:=by rw[List.length_set,HNL.out];exact hv4
         have hxl:=ofZ_len (now.set ak x0) consts (r - k - 1)
         have hxg:∀ g ∈ x.2,0≤g∧g≤1099511627776:=by
          intro g hg
          rw[hx0] at hg
          have h1:=ofZ_gap_bd _ _ _ g hg
          have h2:=kap_le (r - k - 1)
          omega
         have hxk:∀ c ∈ x.1,-1≤c.2:=by
          intro c hc
          rw[hx0] at hc
          exact(ofZ_cls_bd _ _ _ c hc).2
         have hnI2:∀ y ∈ now ++consts,In64 y:=by
          intro y hy
          rcases List.mem_append.1 hy with hy|hy
          · exact HNI.out y hy
          · exact HI.out y (List.mem_append_right _ hy)
         rw[←hx0] at hxl
         have hxl1:x.1.length≤1000:=by omega
         have HNB:Hid (∀ W',Below w8.heap.size w8 W'→Calls Tryz.prog 28 #[.agg #[u1,u2],.int .i64 ak,.slice (some ⟨nb,0,none⟩) vn nc,.slice ca cl' cc,.int .i64 (r - k - 1)] W' fun e w'=>e=.returned (besV (numZ x ak now (sortS consts) (r - k - 1)))∧Below W'.heap.size W' w'):=by
          intro W' hW
          have hv:=HV8.out.below hW
          exact pnumber_any (z:=x) (ZoneIn.of_at ⟨owns_below hza.1 hW,owns_below hza.2 hW⟩) (RdK.of_owns hv.nw) (HCV.out.below (Nat.le_refl _) hv.low) (by omega) (by rw[HNL.out];omega) hxl1 hnI2 hxg
         have hnum:=numZ_in (z:=x) (a:=ak) (r:=r - k - 1) hnI2
         obtain⟨nm,er,hne⟩:∃ nm er,numZ x ak now (sortS consts) (r - k - 1)= (nm,er):=⟨_,_,rfl⟩
         rw[hne] at HNB hnum
         unfold besV at HNB
         dsimp only at hnum HNB
         have hbz:Below w8.heap.size w8 w8.drew:=(Below.refl _ _).drew
         have hb8i:Below Wi.heap.size Wi w8:=HB8W.out
         have HSF:Hid (∀ W',Below w8.heap.size w8 W'→W'.cell? ⟨g,kx * 2,none⟩ = some u1∧W'.cell? ⟨g,kx * 2+1,none⟩ = some u2∧W'.cell? ⟨W3.heap.size,0,none⟩ = some (.int .i64 r)∧W'.cell? ⟨wr.heap.size,0,none⟩ = some (.int .i64 k)):=by
          intro W' hW
          obtain⟨g',u1',u2',e1,-,e2,e3,-⟩:=(HZ8.out.below hW).at hkx
          cases e1
          have hgl:g < w8.heap.size:=HZG.out
          exact⟨(hW.cell (p:=⟨g,kx * 2,none⟩) hgl).trans f0,(hW.cell (p:=⟨g,kx * 2+1,none⟩) hgl).trans f1,((HBR.out.keep hb8i).keep hW).cell rfl,((HXI.out.keep hb8i).keep hW).cell rfl⟩
         obtain⟨-,-,s2,s3⟩:=HSF.out w8 (Below.refl _ _)
         have HZA:=Lib.hid hza;have HKX:=Lib.hid hkx;have HFD:=Lib.hid hfind;have HX0:=Lib.hid hx0;have HNE:=Lib.hid hne;have HNM:=Lib.hid hnum
         subst hu1;subst hu2
         clear hza hkx hfind hx0 hne hnum hls hxl hxg hxk hnI2 hxl1 hkxl hb8i
         go_upto_region 12 with fail
         go_cut [20,21] (fun v20 v21 wy=>v20=.int .i64 nm∧v21=.int .i64 er∧Hid (Below w8.heap.size w8 wy))
         case first=>
          go_region_held3 (fun w'=>w'.cell? ⟨g,kx * 2,none⟩ = some (.slice b1 x.1.length m3)∧w'.cell? ⟨g,kx * 2+1,none⟩ = some (.slice b2 x.2.length m4)∧w'.cell? ⟨W3.heap.size,0,none⟩ = some (.int .i64 r)∧w'.cell? ⟨wr.heap.size,0,none⟩ = some (.int .i64 k))
           (first|exact HSF.out _ (by assumption)|go_keep)
           (first
             | (go_simp;go_at_call 28;(with_reducible refine(HNB.out _ (by assumption)).mono ?_)
                rintro e w9 ⟨rfl,hbs⟩
                have hbz:=hbz.trans (hbs.mono hbz.size)
                clear hbs))
          all_goals
           go_wp2_with fail
           go_meet
           exact⟨rfl,rfl,hbz⟩
         case rest=>
          clear HSF HNB hbz s2 s3 f0 f1
          obtain⟨rfl,rfl,HB9⟩:=hcut
          obtain⟨wy,rfl⟩:∃ w0,w0=wc:=⟨_,rfl⟩
          have HVY:=Lib.hid (HV8.out.below HB9.out)
          have HZY:=Lib.hid (HZ8.out.below HB9.out)
          have hakl: (ak:Int) < (now.length:Int):=by rw[HNL.out,HVN.out];exact hakv
          have HAKL:=Lib.hid hakl
          clear hakl
          by_cases her:er=0
          rotate_left
          · have HUU:Hid (valsZ (ofZ vals consts r) tz l vals (sortS consts) r= ([],er)):=by
             have hp:=HPE.out
             unfold PkEq at hp
             have hne2: (numZ x ak now (sortS consts) (r - k - 1)).2=er:=by rw[HNE.out]
             rw[HDP.out,pick_err tz (sortS consts) ak (l.drop (k+1)) (ofZ now consts (r - k)) x now (r - k) (by rw[HWZ.out];exact HFD.out) HAKL.out (by rw[hne2];exact her),hne2] at hp
             unfold Hid
             rw[HU.out,hp]
             dsimp only
             rw[if_neg her]
            go_wp2_with fail
            go_ret2
            rw[HUU.out]
            exact⟨_,rfl,RdK.zero _ 1 _ 0,HVY.out.low⟩
          · subst her
            have hsame:ofZ (now.set ak nm) consts (r - k - 1)=x:=by
             rw[HX0.out,←allX_of,←allX_of]
             exact pick_num (by rw[HNL.out];omega) (by have:=HAKL.out;omega) (r - k) x0 nm (by rw[allX_of,←HX0.out];exact HNE.out)
            have HPE2:Hid (PkEq tz (sortS consts) l P0 (k+1) (ofZ (now.set ak nm) consts (r - ((k+1:Nat):Int))) (now.set ak nm) (out ++ [nm]) r):=by
             have hp:=HPE.out
             unfold PkEq at hp
             rw[HDP.out,pick_ok tz (sortS consts) ak (l.drop (k+1)) (ofZ now consts (r - k)) x now (r - k) nm (by rw[HWZ.out];exact HFD.out) HAKL.out HNE.out,Int.toNat_natCast] at hp
             unfold Hid PkEq
             rw[show r - ((k+1:Nat):Int)=r - k - 1 by omega,hsame,hp]
             simp
            have hoy:=HVY.out.nw
            rw[HNL.out,HVN.out] at hoy
            have fz:wy.frozen? ⟨nb,ak,none⟩ = false:=owns_frozen hoy ak
            obtain⟨old,hold⟩:∃ o,now[ak]?=some o:=⟨_,List.getElem?_eq_getElem (by have:=HAKL.out;omega)⟩
            have fo:wy.cell? ⟨nb,ak,none⟩ = some (.int .i64 old):=by
             rw[hoy.cellAt _ (by omega)]
             unfold ints
             rw[List.getElem?_map,hold];rfl
            clear hold
            obtain⟨hs1,hs2⟩:=hoy.stored ak (.int .i64 nm)
            have hty:∀ k,some nb=some k→∀ cs t f,wy.heap[k]?=some (.cells cs t f)→t≠47∧t≠3:=by
             intro k hk cs t f hh
             cases hk
             have:=row_block hoy nb rfl _ _ _ hh
             subst this
             exact⟨by decide,by decide⟩
            have hap: (Value.slice (some ⟨g,0,none⟩) p cp).ownBlock=none∨(Value.slice (some ⟨g,0,none⟩) p cp).ownBlock≠some nb:=by
             obtain⟨ps,_,hr,_⟩:=HZY.out
             exact rows_apart hr hoy (by decide)
            have hzS:=HZY.out.other hs2 hty hap
            have hvS:=HVY.out.set ak nm
            obtain⟨wS,hwS⟩:∃ W,wy.setCell ⟨nb,ak,none⟩ (.int .i64 nm)=W:=⟨_,rfl⟩
            rw[hwS] at hvS hzS
            obtain⟨ad2,c2,w10,hrun,hv10,-,hg10⟩:=hvS.app nm (by rw[HOQ.out];omega) 22
            have hbal:Below wS.heap.size wS (wS.alloc (.cells #[.int .i64 nm] 2)):=(Below.refl _ _).alloc (Nat.le_refl _) _
            have hzA:=hzS.below hbal
            have hvA:=hvS.below hbal
            have hty2:∀ k,(Value.slice ad q c).ownBlock=some k→∀ cs t f,(wS.alloc (.cells #[.int .i64 nm] 2)).heap[k]?=some (.cells cs t f)→t≠47∧t≠3:=by
             intro k hk cs t f hh
             have:=row_block hvA.ou k hk _ _ _ hh
             subst this
             exact⟨by decide,by decide⟩
            have hap2: (Value.slice (some ⟨g,0,none⟩) p cp).ownBlock=none∨(Value.slice (some ⟨g,0,none⟩) p cp).ownBlock≠(Value.slice ad q c).ownBlock:=by
             obtain⟨ps,_,hr,_⟩:=hzA
             exact rows_apart hr hvA.ou (by decide)
            have hz10:=hzA.other hg10 hty2 hap2
            rw[HOQ.out] at hrun hv10
            obtain⟨g',c1',c2',e1,-,q0,q1,hza10⟩:=hz10.at HKX.out
            cases e1
            obtain⟨b1',m3',hu1⟩:=owns_len hza10.1
            obtain⟨b2',m4',hu2⟩:=owns_len hza10.2
            subst hu1;subst hu2
            have hBi:B2≤Wi.heap.size:=HVI.out.hW
            have hv11:=hv10.turn (y:=x) ⟨owns_mono hza10.1 hBi,owns_mono hza10.2 hBi⟩
            have z0:=hv10.box.free 0;have z1:=hv10.box.free 1
            have z2:=hv10.box.two.1;have z3:=hv10.box.two.2
            have HV11:Hid (VS w B B2 bx (.slice b1' x.1.length m3') (.slice b2' x.2.length m4') (.slice (some ⟨nb,0,none⟩) vn nc) (.slice ad2 (q+1) c2) (ofZ (now.set ak nm) consts (r - ((k+1:Nat):Int))) (now.set ak nm) (out ++ [nm]) ((w10.setCell ⟨w.heap.size,0,none⟩ (.slice b1' x.1.length m3')).setCell ⟨w.heap.size,1,none⟩ (.slice b2' x.2.length m4'))):=by
             have e:ofZ (now.set ak nm) consts (r - ((k+1:Nat):Int))=x:=by
              rw[show r - ((k+1:Nat):Int)=r - (k:Int) - 1 by omega];exact hsame
             unfold Hid
             rw[e]
             exact hv11
            have HF11:Hid ((out ++ [nm]).length=q+1∧q+1=k+1∧(now.set ak nm).length=vals.length∧∀ y ∈ now.set ak nm,In64 y):=by
             refine⟨by rw[List.length_append,HOQ.out];rfl,by rw[HQK.out],by rw[List.length_set,HNL.out],fun y hy=>?_⟩
             rcases List.mem_or_eq_of_mem_set hy with hy|rfl
             · exact HNI.out y hy
             · exact HNM.out
            have hq1:q+1≤2:=by have:=HQK.out;omega
            clear hoy hs1 hs2 hty hap hzS hvS hv10 hg10 hbal hzA hvA hty2 hap2 hz10 hza10 hv11 hBi hsame
            have HWS:=Lib.hid hwS
            clear hwS
            go_upto_region 16 with fail
            rw[HWS.out]
            go_wp2_with (first| (at_builtin;refine wpList_append_known _ rfl _ _ _ _ rfl _ _ rfl rfl _ _ hrun ?_;clear hrun)|fail)
            go_roundw
            case rel=>exact⟨k+1,q+1,c2,ad2,_,_,now.set ak nm,out ++ [nm],by go_num,by omega,rfl,hq1,HV11,HF11,HPE2⟩
            case measure=>simp[intOf];omega
end Go.Proofs.YtkkoooagamadjaaGreatDoor
