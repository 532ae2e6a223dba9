import Derived.Test.YtkkoooagamadjaaGreatDoorPk38
import Derived.Test.YtkkoooagamadjaaGreatDoorPk26
import Derived.Test.YtkkoooagamadjaaGreatDoorPk18
import Derived.Test.YtkkoooagamadjaaGreatDoorPk37
import Derived.Test.YtkkoooagamadjaaGreatDoorPk33
import Derived.Deep.RegionHeld3
import Derived.Deep.DeepCutAuto
namespace Go.Proofs.YtkkoooagamadjaaGreatDoor
open Go.RowKit Go.Shelf
set_option maxRecDepth 100000 in
set_option maxHeartbeats 2000000 in
theorem eqCls_any {W:World} {v u:Value} {cl dl:List (Int × Int)} (h1:RdK W 2 v cl.length (cellsP cl)) (h2:RdK W 2 u dl.length (cellsP dl)) (hcl:cl.length≤65536) (hdl:dl.length≤65536) :
 Calls Tryz.prog 96 #[v,u] W fun e w'=>e=.returned (.bool (decide (cl=dl)))∧Below W.heap.size W w':=by
 obtain⟨a1,k1,e1⟩:=h1.len
 obtain⟨a2,k2,e2⟩:=h2.len
 obtain⟨n,hn⟩:∃ n,cl.length=n:=⟨_,rfl⟩
 obtain⟨m,hm⟩:∃ m,dl.length=m:=⟨_,rfl⟩
 obtain⟨ans,ha⟩:∃ ans,decide (cl=dl)=ans:=⟨_,rfl⟩
 rw[ha]
 rw[hn] at h1 e1 hcl;rw[hm] at h2 e2 hdl
 subst e1;subst e2
 have HA:=Lib.hid ha;have HN:=Lib.hid hn;have HM:=Lib.hid hm
 have H1:=Lib.hid h1;have H2:=Lib.hid h2
 clear h1 h2 hn hm ha
 by_cases hnn:n=m
 rotate_left
 · have hnz:¬(n:Int)= (m:Int):=by omega
   obtain rfl:ans=false:=by
    rw[←HA.out]
    refine decide_eq_false fun e=>hnn ?_
    rw[←HN.out,←HM.out,e]
   clear hnn
   go_enter Tryz.func96,Tryz.ntmps96
   go_wp2
   go_ret
   exact⟨rfl,Below.refl _ _⟩
 subst hnn
 go_enter Tryz.func96,Tryz.ntmps96
 go_wp2
 go_loopw [5,13] (fun _ i wr=>∃ k:Nat,i=.int .i64 k∧k≤n∧Hid (Below W.heap.size W wr)∧Hid (∀ j,j < k→cl[j]?=dl[j]?)) (fun _ i _=>n - (intOf i).toNat)
 case atStart=>exact⟨0,rfl,Nat.zero_le _,Below.refl _ _,fun j h=>by omega⟩
 case round=>
  obtain⟨k,rfl,hk,hb,HE⟩:=hrel
  by_cases hlt:k < n
  · have p1: (k:Int) < (n:Int):=by omega
    obtain⟨x,hx⟩:∃ x,cl[k]?=some x:=⟨_,List.getElem?_eq_getElem (by rw[HN.out];exact hlt)⟩
    obtain⟨y,hy⟩:∃ y,dl[k]?=some y:=⟨_,List.getElem?_eq_getElem (by rw[HM.out];exact hlt)⟩
    have y1:=H1.out.below hb.out;have y2:=H2.out.below hb.out
    obtain⟨xa,xb⟩:=x
    obtain⟨ya,yb⟩:=y
    obtain⟨g,o,t1,_,d1,d2⟩:=y1.cls hx (by omega)
    obtain⟨g',o',t2,_,d3,d4⟩:=y2.cls hy (by omega)
    cases t1;cases t2
    by_cases hxy: (xa,xb)= (ya,yb)
    · obtain⟨rfl,rfl⟩:=Prod.mk.inj hxy
      clear hxy
      have HE2:Hid (∀ j,j < k+1→cl[j]?=dl[j]?):=Lib.hid fun j h=>by
       by_cases hjk:j < k
       · exact HE.out j hjk
       · obtain rfl:j=k:=by omega
         rw[hx,hy]
      clear hx hy y1 y2 HE
      go_wp2
      go_quiet (fail)
      go_wp2
      go_roundw
      case rel=>exact⟨k+1,by go_num,by omega,Lib.hid (below_drewN hb.out _),HE2⟩
      case measure=>simp[intOf];omega
    · obtain rfl:ans=false:=by
       rw[←HA.out]
       exact decide_eq_false fun e=>list_ne_of_get k _ _ hx hy hxy e
      by_cases hA:xa=ya
      · subst hA
        have hB:¬xb=yb:=fun h=>hxy (by rw[h])
        clear hx hy y1 y2 hxy HE
        go_wp2
        go_quiet (fail)
        go_wp2
        go_ret
        exact⟨rfl,below_drewN hb.out _⟩
      · clear hx hy y1 y2 hxy HE
        go_wp2
        go_quiet (fail)
        go_wp2
        go_ret
        exact⟨rfl,below_drewN hb.out _⟩
  · obtain rfl:k=n:=by omega
    obtain rfl:ans=true:=by
     rw[←HA.out]
     exact decide_eq_true (list_eq_of_get k HN.out HM.out HE.out)
    clear hlt
    go_wp2
    go_ret
    exact⟨rfl,hb.out⟩
set_option maxRecDepth 100000 in
set_option maxHeartbeats 2000000 in
theorem eqInt_any {W:World} {v u:Value} {cl dl:List Int} (h1:RdK W 1 v cl.length (ints cl)) (h2:RdK W 1 u dl.length (ints dl)) (hcl:cl.length≤65536) (hdl:dl.length≤65536) :
 Calls Tryz.prog 97 #[v,u] W fun e w'=>e=.returned (.bool (decide (cl=dl)))∧Below W.heap.size W w':=by
 obtain⟨a1,k1,e1⟩:=h1.len
 obtain⟨a2,k2,e2⟩:=h2.len
 obtain⟨n,hn⟩:∃ n,cl.length=n:=⟨_,rfl⟩
 obtain⟨m,hm⟩:∃ m,dl.length=m:=⟨_,rfl⟩
 obtain⟨ans,ha⟩:∃ ans,decide (cl=dl)=ans:=⟨_,rfl⟩
 rw[ha]
 rw[hn] at h1 e1 hcl;rw[hm] at h2 e2 hdl
 subst e1;subst e2
 have HA:=Lib.hid ha;have HN:=Lib.hid hn;have HM:=Lib.hid hm
 have H1:=Lib.hid h1;have H2:=Lib.hid h2
 clear h1 h2 hn hm ha
 by_cases hnn:n=m
 rotate_left
 · have hnz:¬(n:Int)= (m:Int):=by omega
   obtain rfl:ans=false:=by
    rw[←HA.out]
    refine decide_eq_false fun e=>hnn ?_
    rw[←HN.out,←HM.out,e]
   clear hnn
   go_enter Tryz.func97,Tryz.ntmps97
   go_wp2
   go_ret
   exact⟨rfl,Below.refl _ _⟩
 subst hnn
 go_enter Tryz.func97,Tryz.ntmps97
 go_wp2
 go_loopw [5,13] (fun _ i wr=>∃ k:Nat,i=.int .i64 k∧k≤n∧Hid (Below W.heap.size W wr)∧Hid (∀ j,j < k→cl[j]?=dl[j]?)) (fun _ i _=>n - (intOf i).toNat)
 case atStart=>exact⟨0,rfl,Nat.zero_le _,Below.refl _ _,fun j h=>by omega⟩
 case round=>
  obtain⟨k,rfl,hk,hb,HE⟩:=hrel
  by_cases hlt:k < n
  · have p1: (k:Int) < (n:Int):=by omega
    obtain⟨x,hx⟩:∃ x,cl[k]?=some x:=⟨_,List.getElem?_eq_getElem (by rw[HN.out];exact hlt)⟩
    obtain⟨y,hy⟩:∃ y,dl[k]?=some y:=⟨_,List.getElem?_eq_getElem (by rw[HM.out];exact hlt)⟩
    have y1:=H1.out.below hb.out;have y2:=H2.out.below hb.out
    have cx: (ints cl)[k]?=some (.int .i64 x):=by simp[ints,hx]
    have cy: (ints dl)[k]?=some (.int .i64 y):=by simp[ints,hy]
    obtain⟨g,o,t1,_,hc1⟩:=y1.at (by omega)
    obtain⟨g',o',t2,_,hc2⟩:=y2.at (by omega)
    cases t1;cases t2
    have d1:=hc1 _ _ cx
    have d3:=hc2 _ _ cy
    clear cx cy hc1 hc2
    by_cases hxy:x=y
    · subst hxy
      have HE2:Hid (∀ j,j < k+1→cl[j]?=dl[j]?):=Lib.hid fun j h=>by
       by_cases hjk:j < k
       · exact HE.out j hjk
       · obtain rfl:j=k:=by omega
         rw[hx,hy]
      clear hx hy y1 y2 HE
      go_wp2
      go_quiet (fail)
      go_wp2
      go_roundw
      case rel=>exact⟨k+1,by go_num,by omega,Lib.hid (below_drewN hb.out _),HE2⟩
      case measure=>simp[intOf];omega
    · obtain rfl:ans=false:=by
       rw[←HA.out]
       exact decide_eq_false fun e=>list_ne_of_get k _ _ hx hy hxy e
      clear hx hy y1 y2 HE
      go_wp2
      go_quiet (fail)
      go_wp2
      go_ret
      exact⟨rfl,below_drewN hb.out _⟩
  · obtain rfl:k=n:=by omega
    obtain rfl:ans=true:=by
     rw[←HA.out]
     exact decide_eq_true (list_eq_of_get k HN.out HM.out HE.out)
    clear hlt
    go_wp2
    go_ret
    exact⟨rfl,hb.out⟩
set_option maxRecDepth 100000 in
set_option maxHeartbeats 2000000 in
theorem zoneSame_any {w:World} {v1 v2 u1 u2:Value} {y z:Zn} (h1:ZoneIn w v1 v2 y.1 y.2) (h2:ZoneIn w u1 u2 z.1 z.2) (hy:SmallZ y) (hz:SmallZ z) :
 Calls Tryz.prog 66 #[.agg #[v1,v2],.agg #[u1,u2]] w fun e w'=>e=.returned (.bool (decide (y=z)))∧Below w.heap.size w w':=by
 obtain⟨s1,s2⟩:=hy;obtain⟨s3,s4⟩:=hz
 replace s1:=Nat.le_trans s1 (show 1000≤65536 by decide);replace s2:=Nat.le_trans s2 (show 1000≤65536 by decide)
 replace s3:=Nat.le_trans s3 (show 1000≤65536 by decide);replace s4:=Nat.le_trans s4 (show 1000≤65536 by decide)
 obtain⟨W1,hW1⟩:∃ W1,w.alloc (.cells #[v1,v2] 28)=W1:=⟨_,rfl⟩
 have hs1:W1.heap.size=w.heap.size+1:=by rw[←hW1];simp
 obtain⟨W2,hW2⟩:∃ W2,W1.alloc (.cells #[u1,u2] 28)=W2:=⟨_,rfl⟩
 have x1:Blk W2 w.heap.size #[v1,v2] 28:=by rw[←hW2,←hW1];exact(Blk.new _ _ _).alloc _
 have x2:Blk W2 W1.heap.size #[u1,u2] 28:=by rw[←hW2];exact Blk.new _ _ _
 have hb2:Below w.heap.size w W2:=by rw[←hW2,←hW1];exact((Below.refl _ w).alloc (Nat.le_refl _) _).alloc (by simp) _
 have c0:=x1.two.1;have c1:=x1.two.2;have c2:=x2.two.1;have c3:=x2.two.2
 obtain⟨a1,k1,e1⟩:=h1.1.len
 obtain⟨a2,k2,e2⟩:=h1.2.len
 obtain⟨a3,k3,e3⟩:=h2.1.len
 obtain⟨a4,k4,e4⟩:=h2.2.len
 have HE1:=Lib.hid (eqCls_any (h1.1.below hb2) (h2.1.below hb2) s1 s3)
 have HE2:=Lib.hid (fun W (hW:Below w.heap.size w W)=>eqInt_any (h1.2.below hW) (h2.2.below hW) s2 s4)
 have HB:=Lib.hid hb2;have X1:=Lib.hid x1;have X2:=Lib.hid x2
 obtain⟨cl,gl⟩:=y
 obtain⟨dl,fl⟩:=z
 dsimp only at *
 subst e1;subst e2;subst e3;subst e4
 obtain⟨p,hp⟩:∃ p,decide (cl=dl)=p:=⟨_,rfl⟩
 obtain⟨q,hq⟩:∃ q,decide (gl=fl)=q:=⟨_,rfl⟩
 have HU:Hid (decide ((cl,gl)= (dl,fl))= (p && q)):=by
  unfold Hid
  rw[←hp,←hq,Bool.eq_iff_iff]
  simp
 rw[hp] at HE1
 rw[hq] at HE2
 rw[HU.out]
 obtain⟨n1,hn1⟩:∃ n,cl.length=n:=⟨_,rfl⟩
 obtain⟨n2,hn2⟩:∃ n,gl.length=n:=⟨_,rfl⟩
 obtain⟨n3,hn3⟩:∃ n,dl.length=n:=⟨_,rfl⟩
 obtain⟨n4,hn4⟩:∃ n,fl.length=n:=⟨_,rfl⟩
 rw[hn1,hn2,hn3,hn4]
 rw[hn1] at X1 HE1 c0 hW1
 rw[hn2] at X1 HE2 c1 hW1
 rw[hn3] at X2 HE1 c2 hW2
 rw[hn4] at X2 HE2 c3 hW2
 clear h1 h2 hb2 x1 x2 hp hq HU hs1 hn1 hn2 hn3 hn4
 go_enter Tryz.func66,Tryz.ntmps66
 go_wp2_with fail
 clear hW1 hW2 c0 c1 c2 c3
 refine HE1.out.mono ?_
 rintro e w3 ⟨rfl,hb3⟩
 have HB3:=Lib.hid (HB.out.trans (hb3.mono HB.out.size))
 have c1:=(X1.out.keep hb3).two.2
 have c3:=(X2.out.keep hb3).two.2
 clear hb3
 cases p
 · go_wp2_with fail
   go_ret
   exact⟨rfl,HB3.out⟩
 · go_wp2_with fail
   refine(HE2.out _ HB3.out).mono ?_
   rintro e w4 ⟨rfl,hb4⟩
   have HB4:=Lib.hid (HB3.out.trans (hb4.mono HB3.out.size))
   clear hb4
   go_wp2_with fail
   go_ret
   exact⟨rfl,HB4.out⟩
set_option maxRecDepth 100000 in
set_option maxHeartbeats 1000000 in
theorem comesC_any {w:World} {p:Nat} {x1 x2 t1 t2:Value} {x tz:Zn} (hp:Blk w p #[t1,t2] 28) (hx:ZoneIn w x1 x2 x.1 x.2) (ht:ZoneIn w t1 t2 tz.1 tz.2) (hsx:SmallZ x) (hst:SmallZ tz) :
 Calls Tryz.prog 65 #[.agg #[x1,x2],.pointer (some ⟨p,0,none⟩)] w fun e w'=>e=.returned (.bool (decide (x=tz)))∧Below w.heap.size w w':=by
 obtain⟨W1,hW1⟩:∃ W1,w.alloc (.cells #[x1,x2] 28)=W1:=⟨_,rfl⟩
 have x1':Blk W1 w.heap.size #[x1,x2] 28:=by rw[←hW1];exact Blk.new _ _ _
 have hb1:Below w.heap.size w W1:=by rw[←hW1];exact(Below.refl _ w).alloc (Nat.le_refl _) _
 have c0:=x1'.two.1;have c1:=x1'.two.2
 have c2:=(hp.keep hb1).two.1;have c3:=(hp.keep hb1).two.2
 have HS:=Lib.hid (zoneSame_any (hx.below hb1) (ht.below hb1) hsx hst)
 have HB:=Lib.hid hb1
 obtain⟨q,hq⟩:∃ q,decide (x=tz)=q:=⟨_,rfl⟩
 rw[hq] at HS ⊢
 obtain⟨a1,k1,e1⟩:=hx.1.len
 obtain⟨a2,k2,e2⟩:=hx.2.len
 obtain⟨a3,k3,e3⟩:=ht.1.len
 obtain⟨a4,k4,e4⟩:=ht.2.len
 subst e1;subst e2;subst e3;subst e4
 have hlt:=hp.lt
 clear hp hx ht hb1 x1' hq hsx hst
 go_enter Tryz.func65,Tryz.ntmps65
 go_wp2_with fail
 clear hW1
 refine HS.out.mono ?_
 rintro e w3 ⟨rfl,hb3⟩
 have HB3:=Lib.hid (HB.out.trans (hb3.mono HB.out.size))
 clear hb3
 go_wp2_with fail
 go_ret
 exact⟨rfl,HB3.out⟩
set_option maxRecDepth 100000 in
set_option maxHeartbeats 2000000 in
theorem indexZ_any {w:World} {p:Nat} {v t1 t2:Value} {zs:List Zn} {tz:Zn} (hv:ZIs w v zs) (hp:Blk w p #[t1,t2] 28) (ht:ZoneIn w t1 t2 tz.1 tz.2) (hs:∀ z ∈ zs,SmallZ z) (hst:SmallZ tz) (hl:zs.length≤100000) :
 Calls Tryz.prog 36 #[v,.func (.func 65) #[] #[.pointer (some ⟨p,0,none⟩)]] w fun e w'=>∃ m:Int,e=.returned (.int .i64 m)∧decide (0≤m)=decide (tz ∈ zs)∧Below w.heap.size w w':=by
 obtain⟨ad,cap,rfl⟩:=hv.len
 obtain⟨n,hn⟩:∃ n,zs.length=n:=⟨_,rfl⟩
 have HN:=Lib.hid hn
 rw[hn] at hv hl ⊢
 have HV:=Lib.hid hv;have HP:=Lib.hid hp;have HT:=Lib.hid ht;have HS:=Lib.hid hs;have HST:=Lib.hid hst
 clear hv hp hn ht hs hst
 go_enter Tryz.func36,Tryz.ntmps36
 go_wp2_with fail
 go_loopw [5,8] (fun _ i wr=>∃ k:Nat,k≤n∧i=.int .i64 k∧Hid (Below w.heap.size w wr∧∀ y ∈ zs.take k,y≠tz)) (fun _ i _=>n - (intOf i).toNat)
 case atStart=>exact⟨0,Nat.zero_le _,rfl,Below.refl _ _,fun y h=>by simp at h⟩
 case round=>
  obtain⟨k,hk,rfl,HH⟩:=hrel
  by_cases hlt:k < n
  · have hkn: (k:Int) < (n:Int):=by omega
    obtain⟨zk,hzk⟩:∃ z,zs[k]?=some z:=⟨_,List.getElem?_eq_getElem (by rw[HN.out];exact hlt)⟩
    obtain⟨g,off,u1,u2,hxa,-,-,f0,f1,hzz,-⟩:=(HV.out.below HH.out.1).at hzk
    subst hxa
    obtain⟨b1,m1,hu1⟩:=hzz.1.len
    obtain⟨b2,m2,hu2⟩:=hzz.2.len
    have HC:=Lib.hid (comesC_any (HP.out.keep HH.out.1) hzz (HT.out.below HH.out.1) (HS.out zk (List.mem_of_getElem? hzk)) HST.out)
    subst hu1;subst hu2
    have hT:Hid (zk≠tz→∀ z ∈ zs.take (k+1),z≠tz):=by
     intro h0 z hz
     obtain⟨h1,h2⟩:=List.getElem?_eq_some_iff.1 hzk
     rw[List.take_succ_eq_append_getElem h1,h2,List.mem_append,List.mem_singleton] at hz
     rcases hz with hz|rfl
     · exact HH.out.2 z hz
     · exact h0
    have hA:Hid (zk=tz→tz ∈ zs):=fun h=>by rw[←h];exact List.mem_of_getElem? hzk
    obtain⟨q,hq⟩:∃ q,decide (zk=tz)=q:=⟨_,rfl⟩
    rw[hq] at HC
    have HQ:=Lib.hid hq
    have HB:=Lib.hid HH.out.1
    clear hzk hq HH hzz
    go_wp2_with fail
    refine HC.out.mono ?_
    rintro e w5 ⟨rfl,hb5⟩
    have HB5:=Lib.hid (HB.out.trans (hb5.mono HB.out.size))
    clear hb5
    cases q
    · go_wp2
      go_roundw
      case rel=>exact⟨k+1,by omega,by go_num,HB5.out,hT.out (of_decide_eq_false HQ.out)⟩
      case measure=>simp[intOf];omega
    · go_wp2
      go_ret
      exact⟨(k:Int),rfl,by rw[decide_eq_true (hA.out (of_decide_eq_true HQ.out))];simp,HB5.out⟩
  · obtain rfl:k=n:=by omega
    have hF:=HH.out.2
    rw[show zs.take k=zs from by rw[←HN.out];exact List.take_length] at hF
    have HF:=Lib.hid hF
    have HB:=Lib.hid HH.out.1
    clear hF HH
    go_wp2
    go_ret
    exact⟨-1,rfl,by rw[decide_eq_false (fun h=>HF.out tz h rfl)];simp,HB.out⟩
set_option maxRecDepth 100000 in
set_option maxHeartbeats 2000000 in
theorem containsZ_any {w:World} {p:Nat} {v t1 t2:Value} {zs:List Zn} {tz:Zn} (hv:ZIs w v zs) (hp:Blk w p #[t1,t2] 28) (ht:ZoneIn w t1 t2 tz.1 tz.2) (hs:∀ z ∈ zs,SmallZ z) (hst:SmallZ tz) (hl:zs.length≤100000) :
 Calls Tryz.prog 64 #[v,.func (.func 65) #[] #[.pointer (some ⟨p,0,none⟩)]] w fun e w'=>e=.returned (.bool (decide (tz ∈ zs)))∧Below w.heap.size w w':=by
 obtain⟨ad,cap,rfl⟩:=hv.len
 have HI:=Lib.hid (indexZ_any hv hp ht hs hst hl)
 obtain⟨q,hq⟩:∃ q,decide (tz ∈ zs)=q:=⟨_,rfl⟩
 rw[hq] at HI ⊢
 obtain⟨n,hn⟩:∃ n,zs.length=n:=⟨_,rfl⟩
 rw[hn] at HI ⊢
 clear hv hp ht hs hst hl hq hn
 go_enter Tryz.func64,Tryz.ntmps64
 go_wp2_with fail
 refine HI.out.mono ?_
 rintro e w5 ⟨m,rfl,hm,hb5⟩
 have HB5:=Lib.hid hb5
 have HMM:=Lib.hid hm
 clear hb5 hm
 go_wp2
 go_ret
 exact⟨ret_bool HMM.out,HB5.out⟩
theorem writeG_small:∀ (l:List Int) (r:Int) (zs:List Zn),WrG r l zs→(∀ z ∈ zs,SmallZ z)→zs.length≤10000→(∀ y ∈ writeG r l zs,SmallZ y)∧(writeG r l zs).length≤10000
 | [],_,zs,_,hs,hl=>⟨hs,hl⟩
 | a :: l,r,zs,⟨_,_,_,h4,h5,h6⟩,_,_=>by
   refine writeG_small l (w64 (r - 1)) (wrStep a r zs) h6 (fun y hy=>?_) ?_
   · unfold wrStep at hy
     rw[uniqL_mem] at hy
     exact(h5 y hy).1
   · exact Nat.le_trans (uniqL_len _) h4
set_option maxRecDepth 100000 in
set_option maxHeartbeats 4000000 in
theorem comes_any {w:World} (ht:PTab w) {v1 v2 t1 t2 lv:Value} {z tz:Zn} {l:List Int} (r:Int) (hz:ZoneIn w v1 v2 z.1 z.2) (hcv:CapV v1∧CapV v2) (hto:ZoneIn w t1 t2 tz.1 tz.2) (hsz:SmallZ z) (hst:SmallZ tz) (hlv:RdK w 1 lv l.length (ints l)) (hl:l.length≤100) (hok:WrG r l [z]) :
 Calls Tryz.prog 34 #[.agg #[v1,v2],.agg #[t1,t2],lv,.int .i64 r] w fun e w'=>e=.returned (.bool (decide (tz ∈ writeG r l [z])))∧Below w.heap.size w w':=by
 obtain⟨W1,hW1⟩:∃ W1,w.alloc (.cells #[v1,v2] 28)=W1:=⟨_,rfl⟩
 have hs1:W1.heap.size=w.heap.size+1:=by rw[←hW1];simp
 obtain⟨W2,hW2⟩:∃ W2,W1.alloc (.cells #[t1,t2] 28)=W2:=⟨_,rfl⟩
 have x1:Blk W2 w.heap.size #[v1,v2] 28:=by rw[←hW2,←hW1];exact(Blk.new _ _ _).alloc _
 have x2:Blk W2 W1.heap.size #[t1,t2] 28:=by rw[←hW2];exact Blk.new _ _ _
 have hb2:Below w.heap.size w W2:=by rw[←hW2,←hW1];exact((Below.refl _ w).alloc (Nat.le_refl _) _).alloc (by simp) _
 have c0:=x1.two.1;have c1:=x1.two.2
 have HWR:=Lib.hid (writeG_any (ht.keep hb2) r (hz.below hb2) hcv (hlv.below hb2) hl hok)
 have HTO:=Lib.hid hto
 have HSM:=Lib.hid (writeG_small l r [z] hok (fun y hy=>by rw[List.mem_singleton] at hy;subst hy;exact hsz) (by simp))
 have HB:=Lib.hid hb2;have X2:=Lib.hid x2
 have HST:=Lib.hid hst
 obtain⟨a1,k1,e1⟩:=hz.1.len
 obtain⟨a2,k2,e2⟩:=hz.2.len
 obtain⟨a3,k3,e3⟩:=hto.1.len
 obtain⟨a4,k4,e4⟩:=hto.2.len
 obtain⟨a5,k5,e5⟩:=hlv.len
 subst e1;subst e2;subst e3;subst e4;subst e5
 obtain⟨G,hG⟩:∃ G,writeG r l [z]=G:=⟨_,rfl⟩
 rw[hG] at HWR HSM ⊢
 clear hz hcv hto hlv hok hb2 x1 x2 hs1 hG hsz hst ht
 go_enter Tryz.func34,Tryz.ntmps34
 go_wp2_with fail
 clear hW1 hW2 c0 c1
 refine HWR.out.mono ?_
 rintro e w3 ⟨v',rfl,hzs,hb3⟩
 have hb23:=HB.out.trans (hb3.mono HB.out.size)
 have HB3:=Lib.hid hb23
 have HCO:=Lib.hid (containsZ_any hzs (X2.out.keep hb3) (HTO.out.below hb23) HSM.out.1 HST.out (by have:=HSM.out.2;omega))
 obtain⟨ad,cap,rfl⟩:=hzs.len
 clear hzs hb3 hb23
 go_wp2_with fail
 refine HCO.out.mono ?_
 rintro e w4 ⟨rfl,hb4⟩
 have HB4:=Lib.hid (HB3.out.trans (hb4.mono HB3.out.size))
 clear hb4
 go_wp2_with fail
 go_ret
 exact⟨rfl,HB4.out⟩
end Go.Proofs.YtkkoooagamadjaaGreatDoor
namespace Go.Proofs.YtkkoooagamadjaaGreatDoor
open Go.RowKit Go.Shelf
def sumV (a b:Int):Value:=if -9223372036854775808≤a+b∧a+b≤9223372036854775807 then .tuple #[.int .i64 (a+b),.bool true] else .tuple #[.int .i64 0,.bool false]
set_option maxHeartbeats 1000000 in
theorem add_any (a b:Int) (w:World) (ha:In64 a) (hb:In64 b) :
 Calls Tryz.prog 130 #[.int .i64 a,.int .i64 b] w fun e w'=>e=.returned (sumV a b)∧w=w':=by
 unfold In64 at ha hb
 obtain⟨S,hS⟩:∃ S,IntKind.i64.wrap (a+b)=S:=⟨_,rfl⟩
 have hS2:=hS
 rw[IntKind.wrap_i64] at hS2
 by_cases hin:-9223372036854775808≤a+b∧a+b≤9223372036854775807
 · have HU:Hid (sumV a b=.tuple #[.int .i64 S,.bool true]):=by unfold Hid sumV;rw[if_pos hin,show a+b=S by omega]
   have hcase: (a < 0∧b < 0∧S < 0)∨(a < 0∧¬b < 0)∨(¬a < 0∧b < 0)∨(¬a < 0∧¬b < 0∧¬S < 0):=by omega
   clear hS2 hin
   rcases hcase with⟨q1,q2,q3⟩ | ⟨q1,q2⟩ | ⟨q1,q2⟩ | ⟨q1,q2,q3⟩
   all_goals
    go_enter Tryz.func130,Tryz.ntmps130
    go_wp2_with fail
    go_ret2
    exact⟨congrArg Ending.returned HU.out.symm,rfl⟩
 · have HU:Hid (sumV a b=.tuple #[.int .i64 0,.bool false]):=by unfold Hid sumV;rw[if_neg hin]
   have hcase: (a < 0∧b < 0∧¬S < 0)∨(¬a < 0∧¬b < 0∧S < 0):=by omega
   clear hS2 hin
   rcases hcase with⟨q1,q2,q3⟩ | ⟨q1,q2,q3⟩
   all_goals
    go_enter Tryz.func130,Tryz.ntmps130
    go_wp2_with fail
    go_ret2
    exact⟨congrArg Ending.returned HU.out.symm,rfl⟩
set_option maxHeartbeats 1000000 in
theorem radd_any (a b:Int) (w:World) (ha:In64 a) (hb:In64 b) :
 Calls Tryz.prog 103 #[.int .i64 a,.int .i64 b] w fun e w'=>e=.returned (sumV a b)∧w=w':=by
 unfold In64 at ha hb
 obtain⟨S,hS⟩:∃ S,IntKind.i64.wrap (a+b)=S:=⟨_,rfl⟩
 obtain⟨M,hM⟩:∃ M,IntKind.i64.wrap (9223372036854775807 - b)=M:=⟨_,rfl⟩
 obtain⟨L,hL⟩:∃ L,IntKind.i64.wrap (-9223372036854775808 - b)=L:=⟨_,rfl⟩
 have hS2:=hS
 have hM2:=hM
 have hL2:=hL
 rw[IntKind.wrap_i64] at hS2 hM2 hL2
 by_cases hin:-9223372036854775808≤a+b∧a+b≤9223372036854775807
 · have HU:Hid (sumV a b=.tuple #[.int .i64 S,.bool true]):=by unfold Hid sumV;rw[if_pos hin,show a+b=S by omega]
   have hcase: (0 < b∧¬b < 0∧¬M < a)∨(¬0 < b∧b < 0∧¬a < L)∨(¬0 < b∧¬b < 0):=by
    by_cases q:0 < b
    · exact .inl ⟨q,by omega,by omega⟩
    · by_cases q2:b < 0
      · exact .inr (.inl ⟨q,q2,by omega⟩)
      · exact .inr (.inr ⟨q,q2⟩)
   clear hS2 hM2 hL2 hin
   rcases hcase with⟨q1,q2,q3⟩ | ⟨q1,q2,q3⟩ | ⟨q1,q2⟩
   all_goals
    go_enter Tryz.func103,Tryz.ntmps103
    go_wp2_with fail
    go_ret2
    exact⟨congrArg Ending.returned HU.out.symm,rfl⟩
 · have HU:Hid (sumV a b=.tuple #[.int .i64 0,.bool false]):=by unfold Hid sumV;rw[if_neg hin]
   have hcase: (0 < b∧¬b < 0∧M < a)∨(¬0 < b∧b < 0∧a < L):=by
    by_cases q:0 < b
    · exact .inl ⟨q,by omega,by omega⟩
    · exact .inr ⟨q,by omega,by omega⟩
   clear hS2 hM2 hL2 hin
   rcases hcase with⟨q1,q2,q3⟩ | ⟨q1,q2,q3⟩
   all_goals
    go_enter Tryz.func103,Tryz.ntmps103
    go_wp2_with fail
    go_ret2
    exact⟨congrArg Ending.returned HU.out.symm,rfl⟩
structure Fnd (W:World) (p:Nat) (cl:List (Int × Int)) (gl:List Int) (a cap:Int) (vals consts:List Int):Prop where
 ex:∃ v1 v2 vv cv,Blk W p #[v1,v2,.int .i64 a,.int .i64 cap,vv,cv] 88∧ZoneIn W v1 v2 cl gl∧RdK W 1 vv vals.length (ints vals)∧Reads W cv (ints consts)
theorem Fnd.below {W W':World} {p:Nat} {cl:List (Int × Int)} {gl:List Int} {a cap:Int} {vals consts:List Int} (h:Fnd W p cl gl a cap vals consts) (hb:Below W.heap.size W W'):Fnd W' p cl gl a cap vals consts:=by
 obtain⟨v1,v2,vv,cv,h1,h2,h3,h4⟩:=h.ex
 exact⟨v1,v2,vv,cv,h1.keep hb,h2.below hb,h3.below hb,h4.below (Nat.le_refl _) hb⟩
def numV (o:Option Int):Value:=
 match o with
 | some n=>.tuple #[.int .i64 n,.bool true]
 | none=>.tuple #[.int .i64 0,.bool false]
set_option maxRecDepth 100000 in
set_option maxHeartbeats 4000000 in
theorem fclass_any {W:World} {p:Nat} {cl:List (Int × Int)} {gl:List Int} {a cap:Int} {vals consts:List Int} (h:Fnd W p cl gl a cap vals consts) (hc:consts.length≤12) (hv:vals.length≤1000) (i:Nat) (hi:i < cl.length) (hcl:cl.length≤1000) :
 Calls Tryz.prog 94 #[.pointer (some ⟨p,0,none⟩),.int .i64 i] W fun e w'=>e=.returned (numV (numC cl i a vals (sortS consts)))∧Below W.heap.size W w':=by
 obtain⟨v1,v2,vv,cv,hb,hz,hvv,hcv⟩:=h.ex
 clear h
 obtain⟨x,hx⟩:∃ x,cl[i]?=some x:=⟨_,List.getElem?_eq_getElem hi⟩
 obtain⟨s,k⟩:=x
 have hg:cl.getD i (0,-1)= (s,k):=by rw[List.getD_eq_getElem?_getD,hx];rfl
 obtain⟨ad1,k1,rfl⟩:=hz.1.len
 obtain⟨ad2,k2,rfl⟩:=hvv.len
 obtain⟨n,hn⟩:∃ n,cl.length=n:=⟨_,rfl⟩
 obtain⟨m,hm⟩:∃ m,vals.length=m:=⟨_,rfl⟩
 have hz1:=hz.1
 rw[hn] at hz1 hb hi hcl
 rw[hm] at hvv hb hv
 obtain⟨b,off,rfl,hbl,d0,d1⟩:=hz1.cls hx (by omega)
 obtain⟨W1,hW1⟩:∃ W1,W.alloc (.cells #[.int .i64 s,.int .i64 k] 47)=W1:=⟨_,rfl⟩
 have hb1:Below W.heap.size W W1:=by rw[←hW1];exact(Below.refl _ _).alloc (Nat.le_refl _) _
 have x1:Blk W1 W.heap.size #[.int .i64 s,.int .i64 k] 47:=by rw[←hW1];exact Blk.new _ _ _
 have c0:W.cell? ⟨p,0,none⟩ = some (.slice (some ⟨b,off,none⟩) n k1):=hb.cell rfl
 have hB1:=hb.keep hb1
 have e2:W1.cell? ⟨p,2,none⟩ = some (.int .i64 a):=hB1.cell rfl
 have e4:W1.cell? ⟨p,4,none⟩ = some (.slice ad2 m k2):=hB1.cell rfl
 have e5:W1.cell? ⟨p,5,none⟩ = some cv:=hB1.cell rfl
 have g0:=x1.two.1;have g1:=x1.two.2
 have hi0: (i:Int) < (n:Int):=by omega
 have HB1:=Lib.hid hb1
 have HBK:=Lib.hid hB1
 have HX1:=Lib.hid x1
 have HVV:=Lib.hid hvv
 have HCV:=Lib.hid (hcv.below (Nat.le_refl _) hb1)
 have HG:=Lib.hid hg
 have HM:=Lib.hid hm
 clear hb hz hz1 hvv hcv hb1 hB1 x1 hx hg hn hm hbl
 by_cases hk:0≤k
 · obtain⟨q,rfl⟩:∃ q:Nat,k= (q:Int):=⟨k.toNat,by omega⟩
   have HU:Hid (numC cl i a vals (sortS consts)= (sortS consts)[q]?):=by
    unfold Hid numC
    rw[HG.out,if_pos (by omega),Int.toNat_natCast]
   have hk2:¬(q:Int) < 0:=by omega
   go_enter Tryz.func94,Tryz.ntmps94
   go_wp2_with fail
   clear c0 d0 d1 hW1
   refine(sorted64_any HCV.out hc).mono ?_
   rintro e w2 ⟨v',rfl,hown,hb2⟩
   obtain⟨ad3,k3,rfl⟩:=owns_len hown
   obtain⟨L,hL⟩:∃ L,(sortS consts).length=L:=⟨_,rfl⟩
   have hL12:L≤12:=by have:=sortS_len consts;omega
   have x2:=HX1.out.keep hb2
   have g0:=x2.two.1;have g1:=x2.two.2
   have HB2:=Lib.hid (HB1.out.trans (hb2.mono HB1.out.size))
   rw[hL] at hown ⊢
   clear e2 e4 e5 x2 hb2
   by_cases hq:q < L
   · obtain⟨y,hy⟩:∃ y,(sortS consts)[q]?=some y:=⟨_,List.getElem?_eq_getElem (by rw[hL];exact hq)⟩
     have hq1: (q:Int) < (L:Int):=by omega
     obtain⟨bl,rfl,hcell⟩:∃ bl,ad3=some ⟨bl,0,none⟩∧w2.cell? ⟨bl,q,none⟩ = some (.int .i64 y):=by
      rcases hown.2 with⟨h0,h1⟩ | ⟨bl,cap',cur,h0,h1⟩
      · simp only[Value.slice.injEq] at h0;omega
      · simp only[Value.slice.injEq] at h0
        obtain⟨rfl,-,rfl⟩:=h0
        refine⟨bl,rfl,?_⟩
        have:=hown.cellAt q (by omega)
        rw[this]
        unfold ints
        rw[List.getElem?_map,hy];rfl
     have HV:Hid (numC cl i a vals (sortS consts)=some y):=by unfold Hid;rw[HU.out,hy]
     clear hown hy hL
     go_wp2_with fail
     go_ret2
     rw[HV.out]
     exact⟨rfl,HB2.out⟩
   · have hq1:¬(q:Int) < (L:Int):=by omega
     have HV:Hid (numC cl i a vals (sortS consts)=none):=by
      unfold Hid
      rw[HU.out]
      exact List.getElem?_eq_none (by omega)
     clear hown hL
     go_wp2_with fail
     go_ret2
     rw[HV.out]
     exact⟨rfl,HB2.out⟩
 · have hk2:k < 0:=by omega
   have HU:Hid (numC cl i a vals (sortS consts)= (othL s a).head?.bind fun b=>vals[b.toNat]?):=by
    unfold Hid numC
    rw[HG.out,if_neg (by omega)]
   go_enter Tryz.func94,Tryz.ntmps94
   go_upto_region 7 with fail
   have hbz:Below W1.heap.size W1 W1.drew:=(Below.refl _ _).drew
   have HSF:Hid (∀ w,Below W1.heap.size W1 w→w.cell? ⟨W.heap.size,0,none⟩ = some (.int .i64 s)∧w.cell? ⟨p,2,none⟩ = some (.int .i64 a)):=fun w hw=>⟨(HX1.out.keep hw).two.1,(HBK.out.keep hw).cell rfl⟩
   have HWO:Hid (∀ w,Calls Tryz.prog 53 #[.int .i64 s,.int .i64 a] w fun e w'=>e=.returned (.int .i64 (putZ s a false))∧w=w'):=fun w=>without_any s a w
   have HLI:Hid (∀ w,Calls Tryz.prog 129 #[.int .i64 (putZ s a false)] w fun e w'=>∃ v,e=.returned v∧w'.ownsRow w.heap.size 3 1 v (othL s a).length (ints (othL s a))∧Below w.heap.size w w'):=fun w=>list_any _ w
   obtain⟨L,hL⟩:∃ L,(othL s a).length=L:=⟨_,rfl⟩
   have hL31:L≤31:=by rw[←hL];exact listZ_len _ _
   rw[hL] at HLI
   obtain⟨T,hT⟩:∃ T,putZ s a false=T:=⟨_,rfl⟩
   rw[hT] at HLI HWO
   clear hT c0 d0 d1 e5
   go_cut [43,44,45] (fun v43 v44 v45 wx=>∃ ad c,v43=.slice ad L c∧v44=.int .i64 L∧v45=.int .i64 0∧Hid (Below W1.heap.size W1 wx∧RdK wx 1 (.slice ad L c) L (ints (othL s a))))
   case first=>
    go_region_held3 (fun w'=>w'.cell? ⟨W.heap.size,0,none⟩ = some (.int .i64 s)∧w'.cell? ⟨p,2,none⟩ = some (.int .i64 a))
     (first|exact HSF.out _ (by assumption)|go_keep)
     (first
       | (go_simp;go_at_call 53;(with_reducible refine(HWO.out _).mono ?_);rintro e w5 ⟨rfl,rfl⟩)
       | (go_simp;go_at_call 129;(with_reducible refine(HLI.out _).mono ?_)
          rintro e w6 ⟨vl,rfl,hown,hbs⟩
          obtain⟨ad6,k6,rfl⟩:=owns_len hown
          have hbz:=hbz.trans (hbs.mono hbz.size)
          clear hbs))
    all_goals
     go_wp2_with fail
     go_meet
     exact⟨_,_,rfl,rfl,rfl,hbz,RdK.of_owns hown⟩
   case rest=>
    clear HSF HWO HLI hbz g0 g1 e2 e4
    obtain⟨ad6,k6,rfl,rfl,rfl,HH⟩:=hcut
    obtain⟨wx,rfl⟩:∃ w0,w0=wc:=⟨_,rfl⟩
    have HBX:=Lib.hid (HB1.out.trans (HH.out.1.mono HB1.out.size))
    have e4:wx.cell? ⟨p,4,none⟩ = some (.slice ad2 m k2):=(HBK.out.keep HH.out.1).cell rfl
    have HRD:=Lib.hid HH.out.2
    clear HH
    go_wp2_with fail
    go_loopw [45] (fun i' wr=>i'=.int .i64 0∧wx=wr) (fun _ _=>0)
    case atStart=>exact⟨rfl,rfl⟩
    case round=>
     obtain⟨rfl,rfl⟩:=hrel
     cases hl:othL s a with
     | nil=>
       obtain rfl:L=0:=by rw[←hL,hl];rfl
       have HV:Hid (numC cl i a vals (sortS consts)=none):=by unfold Hid;rw[HU.out,hl];rfl
       clear hl hL
       go_wp2_with fail
       go_ret2
       rw[HV.out]
       exact⟨rfl,HBX.out⟩
     | cons y t=>
       have hL1:1≤L:=by rw[←hL,hl];simp
       have hL2: (0:Int) < (L:Int):=by omega
       have hy:=(oth_mem s a y).1 (by rw[hl];simp)
       obtain⟨yn,rfl⟩:∃ yn:Nat,y= (yn:Int):=⟨y.toNat,by omega⟩
       obtain⟨b6,o6,rfl,hb6,hc6⟩:=HRD.out.at (by omega)
       have f0:wx.cell? ⟨b6,o6,none⟩ = some (.int .i64 yn):=hc6 0 _ (by rw[hl];rfl)
       have HV:Hid (numC cl i a vals (sortS consts)=vals[yn]?):=by
        unfold Hid;rw[HU.out,hl]
        show vals[(yn:Int).toNat]?=_
        rw[Int.toNat_natCast]
       have hyn:yn≤30:=by omega
       clear hl hL hc6 HRD hb6 hy
       by_cases hlt:yn < m
       · have hlt1: (yn:Int) < (m:Int):=by omega
         obtain⟨u,hu⟩:∃ u,vals[yn]?=some u:=⟨_,List.getElem?_eq_getElem (by rw[HM.out];exact hlt)⟩
         obtain⟨b7,o7,rfl,hb7,hc7⟩:=(HVV.out.below HBX.out).at (by omega)
         have f1:wx.cell? ⟨b7,o7+yn,none⟩ = some (.int .i64 u):=hc7 yn _ (by unfold ints;rw[List.getElem?_map,hu];rfl)
         have HW:Hid (numC cl i a vals (sortS consts)=some u):=by unfold Hid;rw[HV.out,hu]
         clear hc7 hu hb7
         go_wp2_with fail
         go_ret2
         rw[HW.out]
         exact⟨rfl,HBX.out⟩
       · have hlt1:¬(yn:Int) < (m:Int):=by omega
         have HW:Hid (numC cl i a vals (sortS consts)=none):=by
          unfold Hid;rw[HV.out]
          exact List.getElem?_eq_none (by rw[HM.out];omega)
         go_wp2_with fail
         go_ret2
         rw[HW.out]
         exact⟨rfl,HBX.out⟩
end Go.Proofs.YtkkoooagamadjaaGreatDoor
