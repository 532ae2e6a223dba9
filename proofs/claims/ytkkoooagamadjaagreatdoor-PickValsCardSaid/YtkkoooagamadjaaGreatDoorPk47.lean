import Derived.Test.YtkkoooagamadjaaGreatDoorPk42
import Derived.Test.YtkkoooagamadjaaGreatDoorPk44
import Derived.Test.YtkkoooagamadjaaGreatDoorPk46
import Derived.Test.YtkkoooagamadjaaGreatDoorPk28
namespace Go.Proofs.YtkkoooagamadjaaGreatDoor
open Go.RowKit Go.Shelf
theorem le2q {q k n:Nat} (h:q=k) (h1:k < n) (h2:n≤2):q+1≤2:=by omega
theorem le31 {a b:Nat} (h:a=b) (h1:b≤4):a≤31:=by omega
theorem natLt {a n:Nat} (h: (a:Int) < (n:Int)):a < n:=by omega
theorem rk1 (r:Int) (k:Nat):r - ((k+1:Nat):Int)=r - (k:Int) - 1:=by omega
theorem leQ {a q:Nat} (h:a=q) (h1:q≤2):a≤100000:=by omega
theorem msrK {k n:Nat} (h:k < n):n - (intOf (.int .i64 ((k+1:Nat):Int))).toNat < n - (intOf (.int .i64 (k:Int))).toNat:=by simp[intOf];omega
theorem subE {n k c:Nat} (h:n≤c) (h1:k < n) (h2:¬c=k+1):¬c - (k+1)=0:=by omega
theorem eqE {n k:Nat} (h:n≤k+1) (h1:k < n):n=k+1:=by omega
theorem fst_at {P:Zn→Bool} {zs:List Zn} {k:Nat} {x:Zn} (hx:zs[k]?=some x) (h:∀ y ∈ zs.take k,P y=false) (hp:P x=true):zs.find? P=some x:=by
 obtain⟨h1,h2⟩:=List.getElem?_eq_some_iff.1 hx
 have hs:zs=zs.take k ++x :: zs.drop (k+1):=by
  conv=>lhs;rw[←List.take_append_drop k zs,List.drop_eq_getElem_cons h1,h2]
 rw[hs,List.find?_append,List.find?_eq_none.2 (fun y hy=>by rw[h y hy];simp),Option.none_or,List.find?_cons_of_pos hp]
theorem fst_none {P:Zn→Bool} {zs:List Zn} (h:∀ y ∈ zs.take zs.length,P y=false):zs.find? P=none:=
 List.find?_eq_none.2 (fun y hy=>by rw[h y (by rw[List.take_length];exact hy)];simp)
theorem fst_step {P:Zn→Bool} {zs:List Zn} {k:Nat} {x:Zn} (hx:zs[k]?=some x) (h:∀ y ∈ zs.take k,P y=false) (hp:P x=false):∀ y ∈ zs.take (k+1),P y=false:=by
 intro z hz
 obtain⟨h1,h2⟩:=List.getElem?_eq_some_iff.1 hx
 rw[List.take_succ_eq_append_getElem h1,h2,List.mem_append,List.mem_singleton] at hz
 rcases hz with hz|rfl
 · exact h z hz
 · exact hp
set_option maxRecDepth 100000 in
set_option maxHeartbeats 8000000 in
theorem rvals_any {w:World} {z1 z2 t1 t2 lv vv cv:Value} {tz:Zn} {l vals consts:List Int} (r:Int) (hz:ZoneIn w z1 z2 (ofZ vals consts r).1 (ofZ vals consts r).2) (hcz:CapV z1∧CapV z2) (hto:ZoneIn w t1 t2 tz.1 tz.2) (hst:SmallZ tz) (hlv:RdK w 1 lv l.length (ints l)) (hcl:CapV lv)
 (hvv:Reads w vv (ints vals)) (hcv:Reads w cv (ints consts)) (hv4:vals.length≤4) (hc4:consts.length≤4) (hl2:l.length≤2) (hi:∀ a ∈ l,∃ k:Nat,a=k∧k < vals.length) (hr3:r≤3) (hr0:-9223372036854775808≤r) (hI:∀ x ∈ vals ++consts,In64 x) :
 Calls Tryz.prog 14 #[.agg #[z1,z2],.agg #[t1,t2],lv,vv,cv,.int .i64 r] w fun e w'=>∃ v',e=.returned (.tuple #[v',.int .i64 (valsZ (ofZ vals consts r) tz l vals (sortS consts) r).2])∧RdK w' 1 v' (valsZ (ofZ vals consts r) tz l vals (sortS consts) r).1.length (ints (valsZ (ofZ vals consts r) tz l vals (sortS consts) r).1)∧Below w.heap.size w w':=by
 obtain⟨a1,k1,e1⟩:=hz.1.len
 obtain⟨a2,k2,e2⟩:=hz.2.len
 obtain⟨a3,k3,e3⟩:=hto.1.len
 obtain⟨a4,k4,e4⟩:=hto.2.len
 obtain⟨la,lc,e5⟩:=hlv.len
 obtain⟨va,vc,e6,-⟩:=hvv.len
 obtain⟨ca,cc,e7,-⟩:=hcv.len
 obtain⟨W1,hW1⟩:∃ W1,w.alloc (.cells #[z1,z2] 28)=W1:=⟨_,rfl⟩
 obtain⟨W2,hW2⟩:∃ W2,W1.alloc (.cells #[t1,t2] 28)=W2:=⟨_,rfl⟩
 have hs1:W1.heap.size=w.heap.size+1:=by rw[←hW1];simp
 have hs2:W2.heap.size=w.heap.size+2:=by rw[←hW2];simp[hs1]
 have hb12:Below W1.heap.size W1 W2:=by rw[←hW2];exact(Below.refl _ _).alloc (Nat.le_refl _) _
 have hb4:Below w.heap.size w W2:=by
  have h1:Below w.heap.size w W1:=by rw[←hW1];exact(Below.refl _ _).alloc (Nat.le_refl _) _
  exact h1.trans (hb12.mono (by omega))
 have xz:Blk W2 w.heap.size #[z1,z2] 28:=by
  have h1:Blk W1 w.heap.size #[z1,z2] 28:=by rw[←hW1];exact Blk.new _ _ _
  exact h1.keep hb12
 have xt:Blk W2 W1.heap.size #[t1,t2] 28:=by rw[←hW2];exact Blk.new _ _ _
 have hok0:=pk_ok vals consts l r hv4 hc4 hl2 hi hr3 hr0
 have HWR:=Lib.hid (fun W (hW:Below w.heap.size w W)=>rwriteG_any r (hz.below hW) hcz (hlv.below hW) (by omega) hr0 (by omega) hok0)
 have HSM:=Lib.hid (writeG_small l r [ofZ vals consts r] hok0 (fun y hy=>by rw[List.mem_singleton] at hy;subst hy;exact(of_sm vals consts r hv4 hc4).1) (by simp))
 have HHS:Hid (∀ (W:World) (u:Value) (G:List Zn),Below w.heap.size w W→ZIs W u G→(∀ y ∈ G,SmallZ y)→G.length≤10000→Calls Tryz.prog 8 #[u,.agg #[t1,t2]] W fun e w'=>e=.returned (.bool (decide (tz ∈ G)))∧Below W.heap.size W w'):=
  fun W u G hW hu hs hl=>hasI_any hu (hto.below hW) hs hst (by omega)
 have HRV:=Lib.hid (fun W (hW:Below w.heap.size w W)=>hvv.below (Nat.le_refl _) hW)
 have HB4:=Lib.hid hb4;have XZ:=Lib.hid xz;have XT:=Lib.hid xt
 have HZ:=Lib.hid hz;have HCZ:=Lib.hid hcz;have HTO:=Lib.hid hto;have HLV:=Lib.hid hlv;have HCL:=Lib.hid hcl;have HCV:=Lib.hid hcv
 have HSZ:Hid (W1.heap.size=w.heap.size+1∧W2.heap.size=w.heap.size+2):=⟨hs1,hs2⟩
 have HI:=Lib.hid hI;have HII:=Lib.hid hi;have HST:=Lib.hid hst
 obtain⟨n,hn⟩:∃ n,l.length=n:=⟨_,rfl⟩
 have HN:=Lib.hid hn
 obtain⟨zl1,hzl1⟩:∃ n,(ofZ vals consts r).1.length=n:=⟨_,rfl⟩
 obtain⟨zl2,hzl2⟩:∃ n,(ofZ vals consts r).2.length=n:=⟨_,rfl⟩
 obtain⟨zl3,hzl3⟩:∃ n,tz.1.length=n:=⟨_,rfl⟩
 obtain⟨zl4,hzl4⟩:∃ n,tz.2.length=n:=⟨_,rfl⟩
 obtain⟨vl,hvl⟩:∃ n,(ints vals).length=n:=⟨_,rfl⟩
 obtain⟨cl',hcl'⟩:∃ n,(ints consts).length=n:=⟨_,rfl⟩
 rw[hzl1] at e1;rw[hzl2] at e2;rw[hzl3] at e3;rw[hzl4] at e4;rw[hn] at e5 hl2;rw[hvl] at e6;rw[hcl'] at e7
 clear hz hcz hto hlv hcl hvv hcv hb12 hb4 hs1 hs2 hst hI hi hzl1 hzl2 hzl3 hzl4 hcl' hn hok0
 subst e1;subst e2;subst e3;subst e4;subst e5;subst e6;subst e7
 have HSF:Hid (∀ W',Below W2.heap.size W2 W'→W'.cell? ⟨w.heap.size,0,none⟩ = some (.slice a1 zl1 k1)∧W'.cell? ⟨w.heap.size,1,none⟩ = some (.slice a2 zl2 k2)∧W'.cell? ⟨W1.heap.size,0,none⟩ = some (.slice a3 zl3 k3)∧W'.cell? ⟨W1.heap.size,1,none⟩ = some (.slice a4 zl4 k4)):=fun W' hW=>
  ⟨(xz.keep hW).two.1,(xz.keep hW).two.2,(xt.keep hW).two.1,(xt.keep hW).two.2⟩
 obtain⟨c0,c1,c2,c3⟩:=HSF.out W2 (Below.refl _ _)
 have hbz:Below W2.heap.size W2 W2.drew:=(Below.refl _ _).drew
 obtain⟨qin,hqin⟩:∃ q,decide (tz ∈ writeG r l [ofZ vals consts r])=q:=⟨_,rfl⟩
 have HQI:=Lib.hid hqin
 clear xz xt hqin hvl
 go_enter Tryz.func14,Tryz.ntmps14
 go_upto_region 1 with fail
 clear hW1 hW2
 go_cut [27] (fun v27 wx=>v27=.bool (!qin)∧Hid (Below W2.heap.size W2 wx))
 case first=>
  go_region_held3 (fun w'=>w'.cell? ⟨w.heap.size,0,none⟩ = some (.slice a1 zl1 k1)∧w'.cell? ⟨w.heap.size,1,none⟩ = some (.slice a2 zl2 k2)∧w'.cell? ⟨W1.heap.size,0,none⟩ = some (.slice a3 zl3 k3)∧w'.cell? ⟨W1.heap.size,1,none⟩ = some (.slice a4 zl4 k4))
   (first|exact HSF.out _ (by assumption)|go_keep)
   (first
     | (go_simp;go_at_call 38;(with_reducible refine(HWR.out _ (HB4.out.trans (hbz.mono HB4.out.size))).mono ?_)
        rintro e w5 ⟨vw,rfl,hzs,hbs⟩
        obtain⟨wad,wcp,hvw⟩:=hzs.len
        have hbz:=hbz.trans (hbs.mono hbz.size)
        subst hvw
        clear hbs)
     | (go_simp;go_at_call 8;(with_reducible refine(HHS.out _ _ _ (HB4.out.trans (hbz.mono HB4.out.size)) hzs HSM.out.1 HSM.out.2).mono ?_)
        rw[HQI.out]
        rintro e w6 ⟨rfl,hbs⟩
        have hbz:=hbz.trans (hbs.mono hbz.size)
        clear hbs hzs))
  all_goals
   go_wp2_with fail
   go_meet
   exact⟨rfl,hbz⟩
 case rest=>
  clear HSF hbz c0 c1 c2 c3 HWR HSM
  obtain⟨rfl,HC5⟩:=hcut
  obtain⟨w5,rfl⟩:∃ w0,w0=wc:=⟨_,rfl⟩
  have HB5:=Lib.hid (HB4.out.trans (HC5.out.mono HB4.out.size))
  cases qin
  · have HU:Hid (valsZ (ofZ vals consts r) tz l vals (sortS consts) r= ([],12)):=by unfold Hid valsZ;rw[if_neg (of_decide_eq_false HQI.out)]
    go_wp2_with fail
    go_ret2
    rw[HU.out]
    exact⟨_,rfl,RdK.zero _ 1 _ 0,HB5.out⟩
  · have hin:=of_decide_eq_true HQI.out
    obtain⟨P0,hP0⟩:∃ P0,pickZ tz (sortS consts) l (ofZ vals consts r) vals r=P0:=⟨_,rfl⟩
    have HU:Hid (valsZ (ofZ vals consts r) tz l vals (sortS consts) r=if P0.2=0 then(P0.1,0) else([],P0.2)):=by
     unfold Hid valsZ;rw[if_pos hin,hP0]
    have hr1:l≠[]→1≤r:=by
     intro hne
     by_cases q:r < 1
     · rw[writeG_none _ _ _ q hne] at hin;cases hin
     · omega
    have HR1:=Lib.hid hr1
    have HP0:=Lib.hid hP0
    clear hin hr1 hP0
    have own0: (w5.alloc (.cells #[] 2)).ownsRow w5.heap.size 2 1 (.slice (some ⟨w5.heap.size,0,none⟩) 0 0) 0 []:=World.ownsRow_lit w5 #[] 0 (Nat.le_refl _) (Nat.zero_le _) rfl
    have hbl:Below w5.heap.size w5 (w5.alloc (.cells #[] 2)):=(Below.refl _ _).alloc (Nat.le_refl _) _
    have rv:=HRV.out _ (HB5.out.trans (hbl.mono HB5.out.size))
    have hlv0: (ints vals).length=vals.length:=ints_len vals
    go_upto_region 5 with(first
     | (at_builtin;refine appR _ rfl _ _ 22 rfl w5.heap.size 2 (.int .i64 0) 8 Tryz.underlying22 info_int64 rfl (by decide) _ 0 [] rfl (by exact own0) _ _ rfl rv (ints_one _) (by rw[hlv0];omega) (by simp) ?_;clear own0 rv;intro nv w6 hnow0 hb60)
     | fail)
    have hnow:w6.ownsRow w5.heap.size 2 1 nv vals.length (ints vals):=by rw[Nat.zero_add,List.nil_append,hlv0] at hnow0;exact hnow0
    have hb6:Below w5.heap.size w5 w6:=hbl.trans hb60
    clear hnow0 hb60 hbl hlv0
    obtain⟨na,nc,hnv⟩:=owns_len hnow
    have hb46:=HC5.out.trans (hb6.mono HC5.out.size)
    have hs46:=HC5.out.size
    have hnlt:∀ k,nv.ownBlock=some k→k < w6.heap.size:=fun k hk=>(hnow.lt k hk).2
    have hvs:VS w w5.heap.size w6.heap.size [(W1.heap.size,#[.slice a3 zl3 k3,.slice a4 zl4 k4],28)] (.slice a1 zl1 k1) (.slice a2 zl2 k2) nv (.slice none 0 0) (ofZ vals consts r) vals [] w6:=by
     refine⟨XZ.out.keep hb46,.inl ⟨HZ.out,HCZ.out⟩,hnow,World.ownsRow_nil _ _ _ _,hnlt,?_,HB5.out.trans (hb6.mono HB5.out.size),by have:=HSZ.out;omega,hb6.size,Nat.le_refl _⟩
     intro x hx
     obtain⟨q1,q2⟩:=HSZ.out
     simp only[List.mem_cons,List.not_mem_nil,or_false] at hx
     subst hx
     exact⟨by dsimp only;omega,by dsimp only;omega,XT.out.keep hb46⟩
    have HVS:=Lib.hid hvs
    obtain⟨bx,hbx⟩:∃ bx:List (Nat × Array Value × TypeId),[(W1.heap.size,#[.slice a3 zl3 k3,.slice a4 zl4 k4],28)]=bx:=⟨_,rfl⟩
    rw[hbx] at HVS
    have HBX:=Lib.hid hbx
    have HP1:Hid (PkEq tz (sortS consts) l P0 0 (ofZ vals consts r) vals [] r):=by
     unfold Hid PkEq
     rw[List.drop_zero,List.nil_append,show r - ((0:Nat):Int)=r by omega,HP0.out]
    obtain⟨vn,hvn⟩:∃ n,vals.length=n:=⟨_,rfl⟩
    rw[hvn] at hnv
    have HVN:=Lib.hid hvn
    obtain⟨B,hB⟩:∃ B,w5.heap.size=B:=⟨_,rfl⟩
    obtain⟨B2,hB2⟩:∃ B2,w6.heap.size=B2:=⟨_,rfl⟩
    rw[hB,hB2] at HVS
    subst hnv
    clear hnow hb6 hb46 hs46 hnlt hvs hbx hvn hB hB2 HP0 HC5 HB5 XZ XT HZ HCZ HSZ HRV
    go_wp2_with fail
    go_loopw [14,16] (fun ov i wr=>∃ (k q c:Nat) (ad:Option Addr) (y1 y2:Value) (now out:List Int),i=.int .i64 k∧k≤n∧ov=.slice ad q c∧q≤2∧Hid (VS w B B2 bx y1 y2 (.slice na vn nc) (.slice ad q c) (ofZ now consts (r - k)) now out wr)∧Hid (out.length=q∧q=k∧now.length=vals.length∧∀ x ∈ now,In64 x)∧Hid (PkEq tz (sortS consts) l P0 k (ofZ now consts (r - k)) now out r)) (fun _ i _=>n - (intOf i).toNat)
    case atStart=>exact⟨0,0,0,none,_,_,vals,[],rfl,Nat.zero_le _,rfl,by omega,by unfold Hid;rw[show r - ((0:Nat):Int)=r by omega];exact HVS.out,⟨rfl,rfl,rfl,fun x hx=>HI.out x (List.mem_append_left _ hx)⟩,by unfold Hid;rw[show r - ((0:Nat):Int)=r by omega];exact HP1.out⟩
    case round=>
     clear HVS HP1
     obtain⟨k,q,c,ad,y1,y2,now,out,rfl,hk,rfl,hq2,HVS,HF,HPE⟩:=hrel
     by_cases hlt:k < n
     rotate_left
     · obtain rfl:k=n:=by omega
       have hP:P0= (out,0):=by
        have:=HPE.out
        unfold PkEq at this
        rw[List.drop_of_length_le (by rw[HN.out];exact Nat.le_refl _),pickZ] at this
        rw[this];simp
       have HUU:Hid (valsZ (ofZ vals consts r) tz l vals (sortS consts) r= (out,0)):=by unfold Hid;rw[HU.out,hP];simp
       have HOU:=Lib.hid (RdK.of_owns HVS.out.ou)
       have HLW:=Lib.hid HVS.out.low
       clear hP
       go_wp2_with fail
       go_ret2
       rw[HUU.out]
       exact⟨_,rfl,HOU.out,HLW.out⟩
     · have hkn: (k:Int) < (n:Int):=by omega
       have hk0: (0:Int)≤(k:Int):=by omega
       have hkl:k < l.length:=by rw[HN.out];exact hlt
       obtain⟨a,ha⟩:∃ a,l[k]?=some a:=⟨_,List.getElem?_eq_getElem hkl⟩
       obtain⟨ak,rfl,hak⟩:=HII.out a (List.mem_of_getElem? ha)
       have hr1:=HR1.out (fun e=>by rw[e] at hkl;simp at hkl)
       obtain⟨hoq,hqk,hnl,hnI⟩:=HF.out
       have hrl:=HLV.out.below HVS.out.low
       obtain⟨lb,lo,lc',hlsh⟩:=rdk_shape hrl (by omega)
       simp only[Value.slice.injEq] at hlsh
       obtain⟨rfl,-,rfl⟩:=hlsh
       obtain⟨hr2,hr3',hr4,hr5⟩:=wrapR r k (by omega) (by omega) (by omega)
       have hdrop:=list_drop_at ha
       have hwk1:IntKind.i64.wrap ((k:Int)+1)= ((k+1:Nat):Int):=by rw[show(k:Int)+1= ((k+1:Nat):Int) by omega];exact IntWalk.i64_in _ ⟨by omega,by omega⟩
       have hR1:0≤r - (k:Int)∧r - (k:Int)≤3:=by omega
       obtain⟨f1,f2⟩:=pk_write now consts ak (r - k) (by omega) hc4 (by omega) (by omega)
       have hkp:=kap_w4 (r - k) (by omega)
       have hlen145: (wrOne ak (r - k) (ofZ now consts (r - k))).length≤200:=by
        have: (kap (r - k - 1)+1) * (kap (r - k - 1)+1)≤4 * 4:=Nat.mul_le_mul (by omega) (by omega)
        omega
       have hzin:=HVS.out.zin
       obtain⟨ya1,yk1,ey1⟩:=hzin.1.1.len
       obtain⟨ya2,yk2,ey2⟩:=hzin.1.2.len
       have hlz:=ofZ_len now consts (r - k)
       obtain⟨nb,rfl,hns⟩:∃ nb,na=some ⟨nb,0,none⟩∧B≤nb:=by
        obtain⟨g,cap',e1,e2,_⟩:=owns_shape HVS.out.nw (by omega)
        simp only[Value.slice.injEq] at e1
        exact⟨g,e1.1,e2⟩
       subst ey1;subst ey2
       have hvi:=HVS.out
       have hbt:Blk wr W1.heap.size #[.slice a3 zl3 k3,.slice a4 zl4 k4] 28:=(hvi.bxs (W1.heap.size,#[.slice a3 zl3 k3,.slice a4 zl4 k4],28) (by rw[←HBX.out];simp)).2.2
       obtain⟨Z,hZ⟩:∃ Z,ofZ now consts (r - k)=Z:=⟨_,rfl⟩
       obtain⟨m1,hm1⟩:∃ n,(ofZ now consts (r - k)).1.length=n:=⟨_,rfl⟩
       obtain⟨m2,hm2⟩:∃ n,(ofZ now consts (r - k)).2.length=n:=⟨_,rfl⟩
       rw[hm1] at hvi;rw[hm2] at hvi
       have hLC:∀ W',Below wr.heap.size wr W'→W'.cell? ⟨lb,lo+k,none⟩ = some (.int .i64 ak):=by
        intro W' hW
        obtain⟨lb',lo',hlq,_,hlc⟩:=(hrl.below hW).at (by omega)
        cases hlq
        exact hlc k _ (by unfold ints;rw[List.getElem?_map,ha];rfl)
       have HLC:=Lib.hid hLC
       have HSF:Hid (∀ W',Below wr.heap.size wr W'→W'.cell? ⟨w.heap.size,0,none⟩ = some (.slice ya1 m1 yk1)∧W'.cell? ⟨w.heap.size,1,none⟩ = some (.slice ya2 m2 yk2)∧W'.cell? ⟨lb,lo+k,none⟩ = some (.int .i64 ak)):=fun W' hW=>
        ⟨(hvi.box.keep hW).two.1,(hvi.box.keep hW).two.2,hLC W' hW⟩
       obtain⟨s0,s1,s2⟩:=HSF.out wr (Below.refl _ _)
       have hzi:=hvi.zin
       have hform:=ofZ_form now consts (r - k)
       have hcok:=(of_wr now consts (r - k) (by omega) hc4).2.2
       have HDR:Hid (∀ W',Below wr.heap.size wr W'→Calls Tryz.prog 40 #[.agg #[.slice ya1 m1 yk1,.slice ya2 m2 yk2],.int .i64 ak,.int .i64 (r - k)] W' fun e w'=>∃ c1 c2,e=.returned (.agg #[c1,c2])∧ZoneIn w' c1 c2 (dropZ ak (r - k) Z.1 Z.2).1 (dropZ ak (r - k) Z.1 Z.2).2∧CapV c1∧Below W'.heap.size W' w'):=by
        intro W' hW
        have h:=rdrop23_any (w:=W') ak (r - k) (hzi.1.below hW) hzi.2.1 hform (by omega) hcok
        have he:=drp_drop ak (r - k) (ofZ now consts (r - k)) hform
        rw[show((ofZ now consts (r - k)).1,(ofZ now consts (r - k)).2)=ofZ now consts (r - k) from rfl,he,hZ] at h
        exact h
       obtain⟨t1',t2'⟩:=dropZ_len ak (r - k) Z.1 Z.2
       have hdk:=dropZ_ok ak (r - k) Z (by rw[←hZ];exact hcok)
       rw[←hZ,hm1] at t1'
       rw[hZ] at t1'
       rw[←hZ,hm2] at t2'
       rw[hZ] at t2'
       obtain⟨D,hD⟩:∃ D,dropZ ak (r - k) Z.1 Z.2=D:=⟨_,rfl⟩
       have hone:wrOne ak (r - k) Z=putL D.1 D.2 ak (r - k):=by unfold wrOne;rw[hD]
       rw[hD] at HDR t1' t2' hdk
       have hd60:D.1.length≤60:=by omega
       have hd61:D.2.length≤60:=by omega
       have hR6:r - (k:Int)≤6:=by omega
       obtain⟨ZS,hZS⟩:∃ ZS,wrOne ak (r - k) Z=ZS:=⟨_,rfl⟩
       rw[hZ] at f1 f2 hlen145
       rw[hZS] at f1 f2 hlen145 hone
       obtain⟨p,hp⟩:∃ p,ZS.length=p:=⟨_,rfl⟩
       rw[hp] at hlen145
       have HPL:=Lib.hid hp
       have HPU:Hid (∀ (W':World) (u1 u2:Value),ZoneIn W' u1 u2 D.1 D.2→CapV u1→Calls Tryz.prog 39 #[.agg #[u1,u2],.int .i64 ak,.int .i64 (r - k)] W' fun e w'=>∃ v',e=.returned v'∧ZonesAt w' W'.heap.size v' ZS∧Below W'.heap.size W' w'):=by
        intro W' u1 u2 hu hc
        rw[hone]
        exact rput_any hu hd60 hd61 hR6 hc (fun c hc=>(hdk c hc).1)
       have HKL:=Lib.hid hkl
       have HF2:Hid (∀ x ∈ ZS,∃ x0,x=ofZ (now.set ak x0) consts (r - k - 1)):=f2
       have HWZ:Hid (wrOne ak (r - k) (ofZ now consts (r - k))=ZS):=by unfold Hid;rw[hZ,hZS]
       have HNL:=Lib.hid hnl;have HNI:=Lib.hid hnI
       have hbz:Below wr.heap.size wr wr.drew:=(Below.refl _ _).drew
       have HVI:=Lib.hid hvi;have HBT:=Lib.hid hbt
       have HDP:=Lib.hid hdrop;have HA:=Lib.hid ha
       have hakv: (ak:Int) < (vn:Int):=by rw[←HVN.out];omega
       have HOQ:=Lib.hid hoq;have HQK:=Lib.hid hqk
       have HAK:=Lib.hid hak
       have HRB:=Lib.hid (And.intro hr1 hR1)
       have HRL:=Lib.hid hrl
       obtain⟨wi,rfl⟩:∃ w0,w0=wr:=⟨_,rfl⟩
       clear f1 f2 hrl hdrop hzin hlz hvi hbt hm1 hm2 hzi t1' t2' hD hone hZS hp hnl hnI ha hoq hqk hkl hak HF hZ hd60 hd61 hR6 hkp hLC hform hcok hdk HVS
       go_upto_region 8 with fail
       go_cut [17] (fun v17 wx=>∃ (xp:Option Addr) (cp:Nat),v17=.slice xp p cp∧Hid (Below wi.heap.size wi wx∧ZonesAt wx wi.heap.size (.slice xp p cp) ZS))
       case first=>
        go_region_held3 (fun w'=>w'.cell? ⟨w.heap.size,0,none⟩ = some (.slice ya1 m1 yk1)∧w'.cell? ⟨w.heap.size,1,none⟩ = some (.slice ya2 m2 yk2)∧w'.cell? ⟨lb,lo+k,none⟩ = some (.int .i64 ak))
         (first|exact HSF.out _ (by assumption)|go_keep)
         (first
           | (go_simp;go_at_call 40;(with_reducible refine(HDR.out _ (by assumption)).mono ?_)
              rintro e w7 ⟨u1,u2,rfl,hzd,hcd,hbs⟩
              have hbz:=hbz.trans (hbs.mono hbz.size)
              clear hbs)
           | (go_simp;go_at_call 39;(with_reducible refine(HPU.out _ _ _ hzd hcd).mono ?_)
              rintro e w8 ⟨vp,rfl,hzp,hbs⟩
              obtain⟨xp,cp,hvp⟩:=hzp.len
              rw[HPL.out] at hvp
              subst hvp
              have hzq:ZonesAt w8 wi.heap.size (.slice xp p cp) ZS:=hzp.mono hbz.size
              have hbz:=hbz.trans (hbs.mono hbz.size)
              clear hbs hzp))
        all_goals
         go_wp2_with fail
         go_meet
         exact⟨_,_,rfl,hbz,hzq⟩
       case rest=>
        clear HSF HDR HPU hbz s0 s1 s2
        obtain⟨xp,cp,rfl,HH⟩:=hcut
        obtain⟨wx,rfl⟩:∃ w0,w0=wc:=⟨_,rfl⟩
        have HVX:=Lib.hid (HVI.out.below HH.out.1)
        have HZX:=Lib.hid HH.out.2
        have HXB:=Lib.hid HH.out.1
        clear HH
        go_wp2_with fail
        go_loopw [18] (fun kv wr=>∃ t:Nat,t≤p∧kv=.int .i64 t∧Hid (Below wx.heap.size wx wr)∧Hid (∀ y ∈ ZS.take t,(decide (tz ∈ writeG (r - k - 1) (l.drop (k+1)) [y]))=false)) (fun kv _=>p - (intOf kv).toNat)
        case atStart=>exact⟨0,Nat.zero_le _,rfl,Below.refl _ _,fun y h=>by simp at h⟩
        case round=>
         obtain⟨t,ht,rfl,HBT2,HFN⟩:=hrel
         by_cases htp:t < p
         rotate_left
         · obtain rfl:t=p:=by omega
           have HUU:Hid (valsZ (ofZ vals consts r) tz l vals (sortS consts) r= ([],12)):=by
            have hp:=HPE.out
            unfold PkEq at hp
            have hnone:=fst_none (P:=fun y=>decide (tz ∈ writeG (r - k - 1) (l.drop (k+1)) [y])) (zs:=ZS) (by rw[HPL.out];exact HFN.out)
            rw[HDP.out,pick_none tz (sortS consts) ak (l.drop (k+1)) (ofZ now consts (r - k)) now (r - k) (by rw[HWZ.out];exact hnone)] at hp
            unfold Hid
            rw[HU.out,hp];simp
           have HLW:=Lib.hid ((HVX.out.below HBT2.out).low)
           have htt:¬(t:Int) < (t:Int):=by omega
           go_wp2
           go_quiet (fail)
           go_wp2_with fail
           go_ret2
           rw[HUU.out]
           exact⟨_,rfl,RdK.zero _ 1 _ 0,below_drewN HLW.out _⟩
         · have htp1: (t:Int) < (p:Int):=by omega
           have ht0: (0:Int)≤(t:Int):=by omega
           have htne:¬(t:Int)= (p:Int):=by omega
           obtain⟨x,hx⟩:∃ x,ZS[t]?=some x:=⟨_,List.getElem?_eq_getElem (by rw[HPL.out];exact htp)⟩
           have hzr:=HZX.out.below HBT2.out
           obtain⟨g,u1,u2,hxa,-,f0,f1,hza⟩:=hzr.at hx
           subst hxa
           have hgl:g < wr.heap.size:=by
            obtain⟨ps,hl,hr,-⟩:=hzr
            exact(hr.lt g rfl).2
           obtain⟨b1,m3,hu1⟩:=owns_len hza.1
           obtain⟨b2,m4,hu2⟩:=owns_len hza.2
           obtain⟨x0,hx0⟩:=HF2.out x (List.mem_of_getElem? hx)
           have hls: (now.set ak x0).length≤4:=by rw[List.length_set,HNL.out];exact hv4
           have hokx:WrG (r - k - 1) (l.drop (k+1)) [x]:=by
            rw[hx0]
            refine pk_ok _ _ _ _ hls hc4 (by rw[List.length_drop,HN.out];omega) (fun b hb=>?_) (by omega) (by have:=HRB.out;omega)
            obtain⟨m,e,hm⟩:=HII.out b (List.mem_of_mem_drop hb)
            exact⟨m,e,by rw[List.length_set,HNL.out];exact hm⟩
           have hsx:SmallZ x:=by rw[hx0];exact(of_sm _ _ _ hls hc4).1
           have HSMX:=Lib.hid (writeG_small (l.drop (k+1)) (r - k - 1) [x] hokx (fun y hy=>by rw[List.mem_singleton] at hy;subst hy;exact hsx) (by simp))
           have hvr:=HVX.out.below HBT2.out
           have HWRX:Hid (∀ (W':World) (u:Value),Below wr.heap.size wr W'→RdK W' 1 u (l.drop (k+1)).length (ints (l.drop (k+1)))→Calls Tryz.prog 38 #[.agg #[u1,u2],u,.int .i64 (r - k - 1)] W' fun e w'=>∃ v',e=.returned v'∧ZIs w' v' (writeG (r - k - 1) (l.drop (k+1)) [x])∧Below W'.heap.size W' w'):=by
            intro W' u hW hu
            exact rwriteG_any (r - k - 1) (z:=x) (ZoneIn.of_at ⟨owns_below hza.1 hW,owns_below hza.2 hW⟩) ⟨CapV.of_owns hza.1,CapV.of_owns hza.2⟩ hu (by rw[List.length_drop,HN.out];omega) (by have:=HRB.out;omega) (by omega) hokx
           obtain⟨q2,hq2'⟩:∃ q,decide (tz ∈ writeG (r - k - 1) (l.drop (k+1)) [x])=q:=⟨_,rfl⟩
           have HQ2:=Lib.hid hq2'
           have hbxr:Below wi.heap.size wi wr:=HXB.out.trans (HBT2.out.mono HXB.out.size)
           have HBXR:=Lib.hid hbxr
           have HSF:Hid (∀ W',Below wr.heap.size wr W'→W'.cell? ⟨g,t * 2,none⟩ = some u1∧W'.cell? ⟨g,t * 2+1,none⟩ = some u2∧W'.cell? ⟨W1.heap.size,0,none⟩ = some (.slice a3 zl3 k3)∧W'.cell? ⟨W1.heap.size,1,none⟩ = some (.slice a4 zl4 k4)):=fun W' hW=>
            ⟨(hW.cell (p:=⟨g,t * 2,none⟩) hgl).trans f0,(hW.cell (p:=⟨g,t * 2+1,none⟩) hgl).trans f1,((HBT.out.keep hbxr).keep hW).two.1,((HBT.out.keep hbxr).keep hW).two.2⟩
           obtain⟨-,-,s3,s4⟩:=HSF.out wr (Below.refl _ _)
           have HVR:=Lib.hid hvr
           have hbz:Below wr.heap.size wr wr.drew:=(Below.refl _ _).drew
           have hnc:n≤lc:=HCL.out _ _ _ rfl
           obtain⟨hi1,hi2,hi3,hi4,hi5⟩:=wrapI k n hlt (by omega)
           have HZA:=Lib.hid hza;have HX:=Lib.hid hx;have HX0:=Lib.hid hx0;have HGL:=Lib.hid hgl;have HZR:=Lib.hid hzr
           subst hu1;subst hu2
           clear hzr hza hx hx0 hls hokx hsx hvr hq2' hbxr hgl
           go_upto_region 10 with fail
           go_cut [75] from 54 to 75 (fun v75 wq=>v75=.bool (!q2)∧Hid (Below wr.heap.size wr wq))
           case first=>
            by_cases hci:lc=k+1
            · subst hci
              have hni:=eqE hnc hlt
              have HZL:=Lib.hid (show l.length≤k+1 from Nat.le_of_eq (HN.out.trans hni))
              subst hni
              refine wp_region_held_drew (S:=(fun w'=>w'.cell? ⟨g,t * 2,none⟩ = some (.slice b1 x.1.length m3)∧w'.cell? ⟨g,t * 2+1,none⟩ = some (.slice b2 x.2.length m4)∧w'.cell? ⟨W1.heap.size,0,none⟩ = some (.slice a3 zl3 k3)∧w'.cell? ⟨W1.heap.size,1,none⟩ = some (.slice a4 zl4 k4))) (by kernel_rfl) ?_ (fun hHeld=>?_)
              · exact HSF.out _ hbz
              refine wpAnyH_take (i:=0) (v:=?v0) rfl (by kernel_rfl) (by kernel_rfl) (by kernel_rfl) (fun _ _ _ h=>h) (Or.inl ⟨by rfl,?y0⟩) (by assumption) ?r0
              case y0=>((intro w hSw;(try dsimp only at hSw);go_simp) <;> (try with_reducible rfl))
              (try go_simp)
              refine wpAnyH_take (i:=1) (v:=?v1) rfl (by kernel_rfl) (by kernel_rfl) (by kernel_rfl) (fun _ _ _ h=>h) (Or.inl ⟨by rfl,?y1⟩) (by assumption) ?r1
              case y1=>((intro w hSw;(try dsimp only at hSw);go_simp) <;> (try with_reducible rfl))
              (try go_simp)
              refine wpAnyH_take (i:=2) (v:=?v2) rfl (by kernel_rfl) (by kernel_rfl) (by kernel_rfl) (fun _ _ _ h=>h) (Or.inl ⟨by rfl,?y2⟩) (by assumption) ?r2
              case y2=>((intro w hSw;(try dsimp only at hSw);go_simp) <;> (try with_reducible rfl))
              (try go_simp)
              refine wpAnyH_take (i:=3) (v:=.bool true) rfl (by kernel_rfl) (by kernel_rfl) (by kernel_rfl) (fun _ _ _ h=>h) (Or.inl ⟨by rfl,?y3⟩) (by assumption) ?r3
              case y3=>((intro w hSw;(try dsimp only at hSw);go_simp) <;> (try with_reducible rfl))
              (try go_simp)
              refine wpAnyH_take (i:=4) (v:=?v4) rfl (by kernel_rfl) (by kernel_rfl) (by kernel_rfl) (fun _ _ _ h=>h) (Or.inl ⟨by rfl,?y4⟩) (by assumption) ?r4
              case y4=>((intro w hSw;(try dsimp only at hSw);go_simp) <;> (try with_reducible rfl))
              (try go_simp)
              refine wpAnyH_take (i:=5) (v:=?v5) rfl (by kernel_rfl) (by kernel_rfl) (by kernel_rfl) (fun _ _ _ h=>h) (Or.inl ⟨by rfl,?y5⟩) (by assumption) ?r5
              case y5=>((intro w hSw;(try dsimp only at hSw);go_simp) <;> (try with_reducible rfl))
              (try go_simp)
              refine wpAnyH_take (i:=6) (v:=?v6) rfl (by kernel_rfl) (by kernel_rfl) (by kernel_rfl) (fun _ _ _ h=>h) (Or.inl ⟨by rfl,?y6⟩) (by assumption) ?r6
              case y6=>((intro w hSw;(try dsimp only at hSw);go_simp) <;> (try with_reducible rfl))
              (try go_simp)
              refine wpAnyH_take (i:=7) (v:=?v7) rfl (by kernel_rfl) (by kernel_rfl) (by kernel_rfl) (fun _ _ _ h=>h) (Or.inl ⟨by rfl,?y7⟩) (by assumption) ?r7
              case y7=>((intro w hSw;(try dsimp only at hSw);go_simp) <;> (try with_reducible rfl))
              (try go_simp)
              refine wpAnyH_take (i:=8) (v:=?v8) rfl (by kernel_rfl) (by kernel_rfl) (by kernel_rfl) (fun _ _ _ h=>h) (Or.inl ⟨by rfl,?y8⟩) (by assumption) ?r8
              case y8=>((intro w hSw;(try dsimp only at hSw);go_simp) <;> (try with_reducible rfl))
              (try go_simp)
              refine wpAnyH_take (i:=9) (v:=?v9) rfl (by kernel_rfl) (by kernel_rfl) (by kernel_rfl) (fun _ _ _ h=>h) (Or.inl ⟨by rfl,?y9⟩) (by assumption) ?r9
              case y9=>((intro w hSw;(try dsimp only at hSw);go_simp) <;> (try with_reducible rfl))
              (try go_simp)
              refine wpAnyH_take (i:=10) (v:=?v10) rfl (by kernel_rfl) (by kernel_rfl) (by kernel_rfl) (fun _ _ _ h=>h) (Or.inl ⟨by rfl,?y10⟩) (by assumption) ?r10
              case y10=>((intro w hSw;(try dsimp only at hSw);go_simp) <;> (try with_reducible rfl))
              (try go_simp)
              refine wpAnyH_take (i:=11) (v:=?v11) rfl (by kernel_rfl) (by kernel_rfl) (by kernel_rfl) (fun _ _ _ h=>h) (Or.inl ⟨by rfl,?y11⟩) (by assumption) ?r11
              case y11=>((intro w hSw;(try dsimp only at hSw);go_simp) <;> (try with_reducible rfl))
              (try go_simp)
              refine wpAnyH_take (i:=12) (v:=?v12) rfl (by kernel_rfl) (by kernel_rfl) (by kernel_rfl) (fun _ _ _ h=>h) (Or.inl ⟨by rfl,?y12⟩) (by assumption) ?r12
              case y12=>((intro w hSw;(try dsimp only at hSw);go_simp) <;> (try with_reducible rfl))
              (try go_simp)
              refine wpAnyH_take (i:=13) (v:=?v13) rfl (by kernel_rfl) (by kernel_rfl) (by kernel_rfl) (fun _ _ _ h=>h) (Or.inl ⟨by rfl,?y13⟩) (by assumption) ?r13
              case y13=>((intro w hSw;(try dsimp only at hSw);go_simp) <;> (try with_reducible rfl))
              (try go_simp)
              refine wpAnyH_take (i:=14) (v:=?v14) rfl (by kernel_rfl) (by kernel_rfl) (by kernel_rfl) (fun _ _ _ h=>h) (Or.inl ⟨by rfl,?y14⟩) (by assumption) ?r14
              case y14=>((intro w hSw;(try dsimp only at hSw);go_simp) <;> (try with_reducible rfl))
              (try go_simp)
              refine wpAnyH_take (i:=15) (v:=?v15) rfl (by kernel_rfl) (by kernel_rfl) (by kernel_rfl) (fun _ _ _ h=>h) (Or.inl ⟨by rfl,?y15⟩) (by assumption) ?r15
              case y15=>((intro w hSw;(try dsimp only at hSw);go_simp) <;> (try with_reducible rfl))
              (try go_simp)
              refine wpAnyH_take (i:=16) (v:=?v16) rfl (by kernel_rfl) (by kernel_rfl) (by kernel_rfl) (fun _ _ _ h=>h) (Or.inl ⟨by rfl,?y16⟩) (by assumption) ?r16
              case y16=>((intro w hSw;(try dsimp only at hSw);go_simp) <;> (try with_reducible rfl))
              (try go_simp)
              refine wpAnyH_take (i:=18) (v:=?v18) rfl (by kernel_rfl) (by kernel_rfl) (by kernel_rfl) (fun _ _ _ h=>h) (Or.inl ⟨by rfl,?y18⟩) (by assumption) ?r18
              case y18=>((intro w hSw;(try dsimp only at hSw);go_simp) <;> (try with_reducible rfl))
              (try go_simp)
              refine wpAnyH_ready (rs:=[17]) (by kernel_rfl) (by simp) ?_
              refine AllReadyH.cons rfl (fun K hK=>?_) AllReadyH.nil
              (try rw[if_pos (by rfl)])
              go_simp
              refine(HWRX.out _ _ hbz (rest_rd0 k HZL.out)).mono ?_
              rintro e w5 ⟨vw,rfl,hzs,hbs⟩
              obtain⟨wad,wcp,hvw⟩:=hzs.len
              have hbz:=hbz.trans (hbs.mono hbz.size)
              subst hvw
              clear hbs
              refine hK.out _ _ ?_ (fun hHeld=>?_)
              · exact HSF.out _ hbz
              clear hK K
              (try go_simp)
              refine wpAnyH_ready (rs:=[19]) (by kernel_rfl) (by simp) ?_
              refine AllReadyH.cons rfl (fun K hK=>?_) AllReadyH.nil
              (try rw[if_pos (by rfl)])
              go_simp
              refine(HHS.out _ _ _ (HVI.out.low.trans ((HBXR.out.trans (hbz.mono HBXR.out.size)).mono HVI.out.low.size)) hzs HSMX.out.1 HSMX.out.2).mono ?_
              rw[HQ2.out]
              rintro e w6 ⟨rfl,hbs⟩
              have hbz:=hbz.trans (hbs.mono hbz.size)
              clear hbs hzs
              refine hK.out _ _ ?_ (fun hHeld=>?_)
              · exact HSF.out _ hbz
              clear hK K
              (try go_simp)
              refine wpAnyH_take (i:=20) (v:=?v20) rfl (by kernel_rfl) (by kernel_rfl) (by kernel_rfl) (fun _ _ _ h=>h) (Or.inl ⟨by rfl,?y20⟩) (by assumption) ?r20
              case y20=>((intro w hSw;(try dsimp only at hSw);go_simp) <;> (try with_reducible rfl))
              (try go_simp)
              refine wpAnyH_take (i:=21) (v:=?v21) rfl (by kernel_rfl) (by kernel_rfl) (by kernel_rfl) (fun _ _ _ h=>h) (Or.inl ⟨by rfl,?y21⟩) (by assumption) ?r21
              case y21=>((intro w hSw;(try dsimp only at hSw);go_simp) <;> (try with_reducible rfl))
              (try go_simp)
              refine wpAnyH_done (by kernel_rfl) ?_ _
              all_goals
               go_wp2_with fail
               go_meet
               exact⟨rfl,hbz⟩
            · have hci':=subE hnc hlt hci
              refine wp_region_held_drew (S:=(fun w'=>w'.cell? ⟨g,t * 2,none⟩ = some (.slice b1 x.1.length m3)∧w'.cell? ⟨g,t * 2+1,none⟩ = some (.slice b2 x.2.length m4)∧w'.cell? ⟨W1.heap.size,0,none⟩ = some (.slice a3 zl3 k3)∧w'.cell? ⟨W1.heap.size,1,none⟩ = some (.slice a4 zl4 k4))) (by kernel_rfl) ?_ (fun hHeld=>?_)
              · exact HSF.out _ hbz
              refine wpAnyH_take (i:=0) (v:=?vb0) rfl (by kernel_rfl) (by kernel_rfl) (by kernel_rfl) (fun _ _ _ h=>h) (Or.inl ⟨by rfl,?yb0⟩) (by assumption) ?rb0
              case yb0=>((intro w hSw;(try dsimp only at hSw);go_simp) <;> (try with_reducible rfl))
              (try go_simp)
              refine wpAnyH_take (i:=1) (v:=?vb1) rfl (by kernel_rfl) (by kernel_rfl) (by kernel_rfl) (fun _ _ _ h=>h) (Or.inl ⟨by rfl,?yb1⟩) (by assumption) ?rb1
              case yb1=>((intro w hSw;(try dsimp only at hSw);go_simp) <;> (try with_reducible rfl))
              (try go_simp)
              refine wpAnyH_take (i:=2) (v:=?vb2) rfl (by kernel_rfl) (by kernel_rfl) (by kernel_rfl) (fun _ _ _ h=>h) (Or.inl ⟨by rfl,?yb2⟩) (by assumption) ?rb2
              case yb2=>((intro w hSw;(try dsimp only at hSw);go_simp) <;> (try with_reducible rfl))
              (try go_simp)
              refine wpAnyH_take (i:=3) (v:=.bool true) rfl (by kernel_rfl) (by kernel_rfl) (by kernel_rfl) (fun _ _ _ h=>h) (Or.inl ⟨by rfl,?yb3⟩) (by assumption) ?rb3
              case yb3=>((intro w hSw;(try dsimp only at hSw);go_simp) <;> (try with_reducible rfl))
              (try go_simp)
              refine wpAnyH_take (i:=4) (v:=?vb4) rfl (by kernel_rfl) (by kernel_rfl) (by kernel_rfl) (fun _ _ _ h=>h) (Or.inl ⟨by rfl,?yb4⟩) (by assumption) ?rb4
              case yb4=>((intro w hSw;(try dsimp only at hSw);go_simp) <;> (try with_reducible rfl))
              (try go_simp)
              refine wpAnyH_take (i:=5) (v:=?vb5) rfl (by kernel_rfl) (by kernel_rfl) (by kernel_rfl) (fun _ _ _ h=>h) (Or.inl ⟨by rfl,?yb5⟩) (by assumption) ?rb5
              case yb5=>((intro w hSw;(try dsimp only at hSw);go_simp) <;> (try with_reducible rfl))
              (try go_simp)
              refine wpAnyH_take (i:=6) (v:=?vb6) rfl (by kernel_rfl) (by kernel_rfl) (by kernel_rfl) (fun _ _ _ h=>h) (Or.inl ⟨by rfl,?yb6⟩) (by assumption) ?rb6
              case yb6=>((intro w hSw;(try dsimp only at hSw);go_simp) <;> (try with_reducible rfl))
              (try go_simp)
              refine wpAnyH_take (i:=7) (v:=?vb7) rfl (by kernel_rfl) (by kernel_rfl) (by kernel_rfl) (fun _ _ _ h=>h) (Or.inl ⟨by rfl,?yb7⟩) (by assumption) ?rb7
              case yb7=>((intro w hSw;(try dsimp only at hSw);go_simp) <;> (try with_reducible rfl))
              (try go_simp)
              refine wpAnyH_take (i:=8) (v:=?vb8) rfl (by kernel_rfl) (by kernel_rfl) (by kernel_rfl) (fun _ _ _ h=>h) (Or.inl ⟨by rfl,?yb8⟩) (by assumption) ?rb8
              case yb8=>((intro w hSw;(try dsimp only at hSw);go_simp) <;> (try with_reducible rfl))
              (try go_simp)
              refine wpAnyH_take (i:=9) (v:=?vb9) rfl (by kernel_rfl) (by kernel_rfl) (by kernel_rfl) (fun _ _ _ h=>h) (Or.inl ⟨by rfl,?yb9⟩) (by assumption) ?rb9
              case yb9=>((intro w hSw;(try dsimp only at hSw);go_simp) <;> (try with_reducible rfl))
              (try go_simp)
              refine wpAnyH_take (i:=10) (v:=?vb10) rfl (by kernel_rfl) (by kernel_rfl) (by kernel_rfl) (fun _ _ _ h=>h) (Or.inl ⟨by rfl,?yb10⟩) (by assumption) ?rb10
              case yb10=>((intro w hSw;(try dsimp only at hSw);go_simp) <;> (try with_reducible rfl))
              (try go_simp)
              refine wpAnyH_take (i:=11) (v:=?vb11) rfl (by kernel_rfl) (by kernel_rfl) (by kernel_rfl) (fun _ _ _ h=>h) (Or.inl ⟨by rfl,?yb11⟩) (by assumption) ?rb11
              case yb11=>((intro w hSw;(try dsimp only at hSw);go_simp) <;> (try with_reducible rfl))
              (try go_simp)
              refine wpAnyH_take (i:=12) (v:=?vb12) rfl (by kernel_rfl) (by kernel_rfl) (by kernel_rfl) (fun _ _ _ h=>h) (Or.inl ⟨by rfl,?yb12⟩) (by assumption) ?rb12
              case yb12=>((intro w hSw;(try dsimp only at hSw);go_simp) <;> (try with_reducible rfl))
              (try go_simp)
              refine wpAnyH_take (i:=13) (v:=?vb13) rfl (by kernel_rfl) (by kernel_rfl) (by kernel_rfl) (fun _ _ _ h=>h) (Or.inl ⟨by rfl,?yb13⟩) (by assumption) ?rb13
              case yb13=>((intro w hSw;(try dsimp only at hSw);go_simp) <;> (try with_reducible rfl))
              (try go_simp)
              refine wpAnyH_take (i:=14) (v:=?vb14) rfl (by kernel_rfl) (by kernel_rfl) (by kernel_rfl) (fun _ _ _ h=>h) (Or.inl ⟨by rfl,?yb14⟩) (by assumption) ?rb14
              case yb14=>((intro w hSw;(try dsimp only at hSw);go_simp) <;> (try with_reducible rfl))
              (try go_simp)
              refine wpAnyH_take (i:=15) (v:=?vb15) rfl (by kernel_rfl) (by kernel_rfl) (by kernel_rfl) (fun _ _ _ h=>h) (Or.inl ⟨by rfl,?yb15⟩) (by assumption) ?rb15
              case yb15=>((intro w hSw;(try dsimp only at hSw);go_simp) <;> (try with_reducible rfl))
              (try go_simp)
              refine wpAnyH_take (i:=16) (v:=?vb16) rfl (by kernel_rfl) (by kernel_rfl) (by kernel_rfl) (fun _ _ _ h=>h) (Or.inl ⟨by rfl,?yb16⟩) (by assumption) ?rb16
              case yb16=>((intro w hSw;(try dsimp only at hSw);go_simp) <;> (try with_reducible rfl))
              (try go_simp)
              refine wpAnyH_take (i:=18) (v:=?vb18) rfl (by kernel_rfl) (by kernel_rfl) (by kernel_rfl) (fun _ _ _ h=>h) (Or.inl ⟨by rfl,?yb18⟩) (by assumption) ?rb18
              case yb18=>((intro w hSw;(try dsimp only at hSw);go_simp) <;> (try with_reducible rfl))
              (try go_simp)
              refine wpAnyH_ready (rs:=[17]) (by kernel_rfl) (by simp) ?_
              refine AllReadyH.cons rfl (fun K hK=>?_) AllReadyH.nil
              (try rw[if_pos (by rfl)])
              go_simp
              refine(HWRX.out _ _ hbz (rest_rd (HRL.out.below (HBXR.out.trans (hbz.mono HBXR.out.size))) k HKL.out)).mono ?_
              rintro e w5 ⟨vw,rfl,hzs,hbs⟩
              obtain⟨wad,wcp,hvw⟩:=hzs.len
              have hbz:=hbz.trans (hbs.mono hbz.size)
              subst hvw
              clear hbs
              refine hK.out _ _ ?_ (fun hHeld=>?_)
              · exact HSF.out _ hbz
              clear hK K
              (try go_simp)
              refine wpAnyH_ready (rs:=[19]) (by kernel_rfl) (by simp) ?_
              refine AllReadyH.cons rfl (fun K hK=>?_) AllReadyH.nil
              (try rw[if_pos (by rfl)])
              go_simp
              refine(HHS.out _ _ _ (HVI.out.low.trans ((HBXR.out.trans (hbz.mono HBXR.out.size)).mono HVI.out.low.size)) hzs HSMX.out.1 HSMX.out.2).mono ?_
              rw[HQ2.out]
              rintro e w6 ⟨rfl,hbs⟩
              have hbz:=hbz.trans (hbs.mono hbz.size)
              clear hbs hzs
              refine hK.out _ _ ?_ (fun hHeld=>?_)
              · exact HSF.out _ hbz
              clear hK K
              (try go_simp)
              refine wpAnyH_take (i:=20) (v:=?vb20) rfl (by kernel_rfl) (by kernel_rfl) (by kernel_rfl) (fun _ _ _ h=>h) (Or.inl ⟨by rfl,?yb20⟩) (by assumption) ?rb20
              case yb20=>((intro w hSw;(try dsimp only at hSw);go_simp) <;> (try with_reducible rfl))
              (try go_simp)
              refine wpAnyH_take (i:=21) (v:=?vb21) rfl (by kernel_rfl) (by kernel_rfl) (by kernel_rfl) (fun _ _ _ h=>h) (Or.inl ⟨by rfl,?yb21⟩) (by assumption) ?rb21
              case yb21=>((intro w hSw;(try dsimp only at hSw);go_simp) <;> (try with_reducible rfl))
              (try go_simp)
              refine wpAnyH_done (by kernel_rfl) ?_ _
              all_goals
               go_wp2_with fail
               go_meet
               exact⟨rfl,hbz⟩
           case rest=>
            clear HSF HWRX HSMX hbz s3 s4 f0 f1
            obtain⟨rfl,HB6⟩:=hcut
            obtain⟨w8,rfl⟩:∃ w0,w0=wc:=⟨_,rfl⟩
            cases q2
            · have HBT3:=Lib.hid (HBT2.out.trans (HB6.out.mono HBT2.out.size))
              have HFN2:=Lib.hid (fst_step (P:=fun y=>decide (tz ∈ writeG (r - k - 1) (l.drop (k+1)) [y])) HX.out HFN.out HQ2.out)
              have hwt1:IntKind.i64.wrap ((t:Int)+1)= ((t+1:Nat):Int):=by rw[show(t:Int)+1= ((t+1:Nat):Int) by omega];exact IntWalk.i64_in _ ⟨by omega,by omega⟩
              go_wp2_with fail
              go_roundw
              case rel=>exact⟨t+1,by omega,rfl,HBT3,HFN2⟩
              case measure=>simp[intOf];omega
            · have HFD:=Lib.hid (fst_at (P:=fun y=>decide (tz ∈ writeG (r - k - 1) (l.drop (k+1)) [y])) HX.out HFN.out HQ2.out)
              have HKX:=HX
              have HV8:=Lib.hid (HVR.out.below HB6.out)
              have HZ8:=Lib.hid (HZR.out.below HB6.out)
              have HBI8:=Lib.hid (HBXR.out.trans (HB6.out.mono HBXR.out.size))
              have hnak:¬(vn:Int)≤(ak:Int):=by omega
              have s9:=HLC.out w8 HBI8.out
              obtain⟨g',v1',v2',e1,-,f0,f1,hza⟩:=HZ8.out.at HKX.out
              cases e1
              obtain⟨b3,m5,hu1⟩:=owns_len hza.1
              obtain⟨b4,m6,hu2⟩:=owns_len hza.2
              have hx0:=HX0.out
              have hls: (now.set ak x0).length≤4:=by rw[List.length_set,HNL.out];exact hv4
              have hxl:=ofZ_len (now.set ak x0) consts (r - k - 1)
              have hxg:∀ g ∈ x.2,0≤g∧g≤1099511627776:=by
               intro g hg
               rw[hx0] at hg
               have h1:=ofZ_gap_bd _ _ _ g hg
               have h2:=kap_le (r - k - 1)
               omega
              have hxk:∀ c ∈ x.1,ClsOK c:=by
               rw[hx0]
               exact(of_wr _ _ _ hls hc4).2.2
              have hnI2:∀ y ∈ now ++consts,In64 y:=by
               intro y hy
               rcases List.mem_append.1 hy with hy|hy
               · exact HNI.out y hy
               · exact HI.out y (List.mem_append_right _ hy)
              rw[←hx0] at hxl
              have hxl1:x.1.length≤1000:=by omega
              have HNB:Hid (∀ W',Below w8.heap.size w8 W'→Calls Tryz.prog 41 #[.agg #[v1',v2'],.int .i64 ak,.slice (some ⟨nb,0,none⟩) vn nc,.slice ca cl' cc,.int .i64 (r - k - 1)] W' fun e w'=>e=.returned (besV (numZ x ak now (sortS consts) (r - k - 1)))∧Below W'.heap.size W' w'):=by
               intro W' hW
               have hv:=HV8.out.below hW
               exact rnumber_any (z:=x) (ZoneIn.of_at ⟨owns_below hza.1 hW,owns_below hza.2 hW⟩) (RdK.of_owns hv.nw) (HCV.out.below (Nat.le_refl _) hv.low) hxk (by omega) (by rw[HNL.out];omega) hxl1 hnI2 hxg
              have hnum:=numZ_in (z:=x) (a:=ak) (r:=r - k - 1) hnI2
              obtain⟨nm,er,hne⟩:∃ nm er,numZ x ak now (sortS consts) (r - k - 1)= (nm,er):=⟨_,_,rfl⟩
              rw[hne] at HNB hnum
              unfold besV at HNB
              dsimp only at hnum HNB
              have hbz:Below w8.heap.size w8 w8.drew:=(Below.refl _ _).drew
              have hgl8:g < w8.heap.size:=Nat.lt_of_lt_of_le HGL.out HB6.out.size
              have HSF:Hid (∀ W',Below w8.heap.size w8 W'→W'.cell? ⟨g,t * 2,none⟩ = some v1'∧W'.cell? ⟨g,t * 2+1,none⟩ = some v2'∧W'.cell? ⟨lb,lo+k,none⟩ = some (.int .i64 ak)):=fun W' hW=>
               ⟨(hW.cell (p:=⟨g,t * 2,none⟩) hgl8).trans f0,(hW.cell (p:=⟨g,t * 2+1,none⟩) hgl8).trans f1,HLC.out W' (HBI8.out.trans (hW.mono HBI8.out.size))⟩
              have HNE:=Lib.hid hne;have HNM:=Lib.hid hnum
              subst hu1;subst hu2
              clear hza hne hnum hls hxl hxg hxk hnI2 hxl1 hx0 hgl8
              go_upto_region 14 with fail
              go_cut [19,20] (fun v19 v20 wy=>v19=.int .i64 nm∧v20=.int .i64 er∧Hid (Below w8.heap.size w8 wy))
              case first=>
               go_region_held3 (fun w'=>w'.cell? ⟨g,t * 2,none⟩ = some (.slice b3 x.1.length m5)∧w'.cell? ⟨g,t * 2+1,none⟩ = some (.slice b4 x.2.length m6)∧w'.cell? ⟨lb,lo+k,none⟩ = some (.int .i64 ak))
                (first|exact HSF.out _ (by assumption)|go_keep)
                (first
                  | (go_simp;go_at_call 41;(with_reducible refine(HNB.out _ (by assumption)).mono ?_)
                     rintro e w9 ⟨rfl,hbs⟩
                     have hbz:=hbz.trans (hbs.mono hbz.size)
                     clear hbs))
               all_goals
                go_wp2_with fail
                go_meet
                exact⟨rfl,rfl,hbz⟩
              case rest=>
               clear HSF HNB hbz f0 f1 s9
               obtain⟨rfl,rfl,HB9⟩:=hcut
               obtain⟨wy,rfl⟩:∃ w0,w0=wc:=⟨_,rfl⟩
               have HVY:=Lib.hid (HV8.out.below HB9.out)
               have HZY:=Lib.hid (HZ8.out.below HB9.out)
               have HWY:=Lib.hid (HBI8.out.trans (HB9.out.mono HBI8.out.size))
               have hakl: (ak:Int) < (now.length:Int):=by rw[HNL.out,HVN.out];exact hakv
               have HAKL:=Lib.hid hakl
               clear hakl hi1 hi2 hi3 hi4 hi5 hr2 hr3' hr4 hr5 hR1 hlen145
               by_cases her:er=0
               rotate_left
               · have HUU:Hid (valsZ (ofZ vals consts r) tz l vals (sortS consts) r= ([],er)):=by
                  have hp:=HPE.out
                  unfold PkEq at hp
                  have hne2: (numZ x ak now (sortS consts) (r - k - 1)).2=er:=by rw[HNE.out]
                  rw[HDP.out,pick_err tz (sortS consts) ak (l.drop (k+1)) (ofZ now consts (r - k)) x now (r - k) (by rw[HWZ.out];exact HFD.out) HAKL.out (by rw[hne2];exact her),hne2] at hp
                  unfold Hid
                  rw[HU.out,hp]
                  dsimp only
                  rw[if_neg her]
                 go_wp2_with fail
                 go_ret2
                 rw[HUU.out]
                 exact⟨_,rfl,RdK.zero _ 1 _ 0,HVY.out.low⟩
               · subst her
                 have hsame:ofZ (now.set ak nm) consts (r - k - 1)=x:=by
                  rw[HX0.out,←allX_of,←allX_of]
                  exact pick_num (le31 HNL.out hv4) (natLt HAKL.out) (r - k) x0 nm (by rw[allX_of,←HX0.out];exact HNE.out)
                 have HPE2:Hid (PkEq tz (sortS consts) l P0 (k+1) (ofZ (now.set ak nm) consts (r - ((k+1:Nat):Int))) (now.set ak nm) (out ++ [nm]) r):=by
                  have hp:=HPE.out
                  unfold PkEq at hp
                  rw[HDP.out,pick_ok tz (sortS consts) ak (l.drop (k+1)) (ofZ now consts (r - k)) x now (r - k) nm (by rw[HWZ.out];exact HFD.out) HAKL.out HNE.out,Int.toNat_natCast] at hp
                  unfold Hid PkEq
                  rw[rk1 r k,hsame,hp]
                  simp
                 have hoy:=HVY.out.nw
                 rw[HNL.out,HVN.out] at hoy
                 have s9:=HLC.out wy HWY.out
                 have fz:wy.frozen? ⟨nb,ak,none⟩ = false:=owns_frozen hoy ak
                 obtain⟨old,hold⟩:∃ o,now[ak]?=some o:=⟨_,List.getElem?_eq_getElem (natLt HAKL.out)⟩
                 have fo:wy.cell? ⟨nb,ak,none⟩ = some (.int .i64 old):=by
                  rw[hoy.cellAt _ (by first|exact natLt hakv| (rw[Nat.mul_one];exact natLt hakv))]
                  unfold ints
                  rw[List.getElem?_map,hold];rfl
                 clear hold
                 obtain⟨hs1,hs2⟩:=hoy.stored ak (.int .i64 nm)
                 have hty:∀ k,some nb=some k→∀ cs t f,wy.heap[k]?=some (.cells cs t f)→t≠47∧t≠3:=by
                  intro k hk cs t f hh
                  cases hk
                  have:=row_block hoy nb rfl _ _ _ hh
                  subst this
                  exact⟨by decide,by decide⟩
                 have hap: (Value.slice (some ⟨g,0,none⟩) p cp).ownBlock=none∨(Value.slice (some ⟨g,0,none⟩) p cp).ownBlock≠some nb:=by
                  obtain⟨ps,_,hr,_⟩:=HZY.out
                  exact rows_apart hr hoy (by decide)
                 have hzS:=HZY.out.other hs2 hty hap
                 have hvS:=HVY.out.set ak nm
                 obtain⟨wS,hwS⟩:∃ W,wy.setCell ⟨nb,ak,none⟩ (.int .i64 nm)=W:=⟨_,rfl⟩
                 rw[hwS] at hvS hzS
                 obtain⟨ad2,c2,w10,hrun,hv10,-,hg10⟩:=hvS.app nm (leQ HOQ.out hq2) 22
                 have hbal:Below wS.heap.size wS (wS.alloc (.cells #[.int .i64 nm] 2)):=(Below.refl _ _).alloc (Nat.le_refl _) _
                 have hzA:=hzS.below hbal
                 have hvA:=hvS.below hbal
                 have hty2:∀ k,(Value.slice ad q c).ownBlock=some k→∀ cs t f,(wS.alloc (.cells #[.int .i64 nm] 2)).heap[k]?=some (.cells cs t f)→t≠47∧t≠3:=by
                  intro k hk cs t f hh
                  have:=row_block hvA.ou k hk _ _ _ hh
                  subst this
                  exact⟨by decide,by decide⟩
                 have hap2: (Value.slice (some ⟨g,0,none⟩) p cp).ownBlock=none∨(Value.slice (some ⟨g,0,none⟩) p cp).ownBlock≠(Value.slice ad q c).ownBlock:=by
                  obtain⟨ps,_,hr,_⟩:=hzA
                  exact rows_apart hr hvA.ou (by decide)
                 have hz10:=hzA.other hg10 hty2 hap2
                 rw[HOQ.out] at hrun hv10
                 obtain⟨g',c1',c2',e1,-,q0,q1,hza10⟩:=hz10.at HKX.out
                 cases e1
                 obtain⟨b1',m3',hu1⟩:=owns_len hza10.1
                 obtain⟨b2',m4',hu2⟩:=owns_len hza10.2
                 subst hu1;subst hu2
                 have hBi:B2≤wi.heap.size:=HVI.out.hW
                 have hv11:=hv10.turn (y:=x) ⟨owns_mono hza10.1 hBi,owns_mono hza10.2 hBi⟩
                 have z0:=hv10.box.free 0;have z1:=hv10.box.free 1
                 have z2:=hv10.box.two.1;have z3:=hv10.box.two.2
                 have HV11:Hid (VS w B B2 bx (.slice b1' x.1.length m3') (.slice b2' x.2.length m4') (.slice (some ⟨nb,0,none⟩) vn nc) (.slice ad2 (q+1) c2) (ofZ (now.set ak nm) consts (r - ((k+1:Nat):Int))) (now.set ak nm) (out ++ [nm]) ((w10.setCell ⟨w.heap.size,0,none⟩ (.slice b1' x.1.length m3')).setCell ⟨w.heap.size,1,none⟩ (.slice b2' x.2.length m4'))):=by
                  have e:ofZ (now.set ak nm) consts (r - ((k+1:Nat):Int))=x:=by
                   rw[rk1 r k];exact hsame
                  unfold Hid
                  rw[e]
                  exact hv11
                 have HF11:Hid ((out ++ [nm]).length=q+1∧q+1=k+1∧(now.set ak nm).length=vals.length∧∀ y ∈ now.set ak nm,In64 y):=by
                  refine⟨by rw[List.length_append,HOQ.out];rfl,by rw[HQK.out],by rw[List.length_set,HNL.out],fun y hy=>?_⟩
                  rcases List.mem_or_eq_of_mem_set hy with hy|rfl
                  · exact HNI.out y hy
                  · exact HNM.out
                 have hq1:q+1≤2:=le2q HQK.out hlt hl2
                 clear hoy hs1 hs2 hty hap hzS hvS hv10 hg10 hbal hzA hvA hty2 hap2 hz10 hza10 hv11 hBi hsame
                 have HWS:=Lib.hid hwS
                 clear hwS
                 go_upto_region 18 with fail
                 rw[HWS.out]
                 go_wp2_with (first| (at_builtin;refine wpList_append_known _ rfl _ _ _ _ rfl _ _ rfl rfl _ _ hrun ?_;clear hrun)|fail)
                 go_roundw
                 case rel=>exact⟨k+1,q+1,c2,ad2,_,_,now.set ak nm,out ++ [nm],by go_num,hlt,rfl,hq1,HV11,HF11,HPE2⟩
                 case measure=>first|exact msrK hlt| (simp[intOf];omega)
end Go.Proofs.YtkkoooagamadjaaGreatDoor
