/- A part of a proof of DeclReadsProof. -/
import Derived.Test.YthlofmnmacpogaaGreatDoorRt03
import Derived.Test.YthlofmnmacpogaaGreatDoorRt33
import Derived.BigQuiet
import Derived.Deep.RegionHeld3
import Derived.Deep.DeepCutAuto
set_option maxRecDepth 100000
set_option maxHeartbeats 40000000
namespace Go.Proofs.YthlofmnmacpogaaGreatDoor
open Go.RowKit
def bare (x:It):It:={ x with line:=0,col:=0 }
theorem bare_eq {x y:It} (h:bare x=bare y):x.op=y.op∧x.ln=y.ln∧x.lnum=y.lnum∧x.rn=y.rn∧x.rnum=y.rnum∧x.name=y.name∧x.user=y.user:=by
 simp only[bare,It.mk.injEq] at h
 exact⟨h.1,h.2.1,h.2.2.1,h.2.2.2.1,h.2.2.2.2.1,h.2.2.2.2.2.1,h.2.2.2.2.2.2.1⟩
theorem same4_any {w:World} {u v:Value} {S T:List It} (ha:ItRow w u S) (hb:ItRow w v T) (hST:S.map bare=T.map bare) :
 Calls Tryz.prog 36 #[u,v] w fun e w'=>e=.returned (.bool true)∧∃ n,w'=w.drewN n:=by
 have hl:S.length=T.length:=by simpa using congrArg List.length hST
 obtain⟨ad,cap,hu⟩:=ha.len
 obtain⟨ad2,cap2,hv⟩:=hb.len
 rw[←hl] at hv
 have hT:S.length≤9223372036854775807:=by obtain⟨_,h⟩:=ha;exact owns_max h
 have HA:=Lh ha
 have HB:=Lh hb
 have HST:=Lh hST
 have HL:=Lh hl
 subst hu
 subst hv
 clear ha hb hl hST
 go_enter Tryz.func36,Tryz.ntmps36
 go_wp2
 go_loopw [5] (fun i wr=>∃ k n:Nat,i=.int .i64 k∧k≤S.length∧wr=w.drewN n) (fun i _=>S.length - (intOf i).toNat)
 case atStart=>exact⟨0,0,by go_num,by omega,rfl⟩
 case round=>
  obtain⟨k,n,rfl,hk,rfl⟩:=hrel
  by_cases hlt:k < S.length
  · obtain⟨x,hx⟩:∃ x,S[k]?=some x:=⟨_,List.getElem?_eq_getElem hlt⟩
    obtain⟨y,hy⟩:∃ y,T[k]?=some y:=⟨_,List.getElem?_eq_getElem (by rw[←HL.out];exact hlt)⟩
    have hxy:bare x=bare y:=by
     have h1: (S.map bare)[k]?=some (bare x):=by rw[List.getElem?_map,hx];rfl
     have h2: (T.map bare)[k]?=some (bare y):=by rw[List.getElem?_map,hy];rfl
     rw[HST.out,h2] at h1
     exact(Option.some.inj h1).symm
    obtain⟨e1,e2,e3,e4,e5,e6,e7⟩:=bare_eq hxy
    obtain⟨g,c1,hg,hgl,a0,a1,a2,a3,a4,a5,a6,a7,a8⟩:=HA.out.at hx
    obtain⟨g2,c2,hg2,hgl2,b0,b1,b2,b3,b4,b5,b6,b7,b8⟩:=HB.out.at hy
    rw[←HL.out] at hg2
    simp only[Value.slice.injEq,true_and] at hg hg2
    obtain⟨rfl,rfl⟩:=hg
    obtain⟨rfl,rfl⟩:=hg2
    rw[←e1] at b0
    rw[←e2] at b1
    rw[←e3] at b2
    rw[←e4] at b3
    rw[←e5] at b4
    rw[←e6] at b5
    rw[←e7] at b6
    have hkz: (k:Int) < (S.length:Int):=by omega
    clear hx hy hxy e1 e2 e3 e4 e5 e6 e7
    go_wp2
    go_quiet (fail)
    go_wp2
    go_roundw
    case rel=>exact⟨k+1,_,by go_num,by omega,rfl⟩
    case measure=>simp[intOf];omega
  · have hkz: (S.length:Int)≤(k:Int):=by omega
    go_wp2
    go_ret
    exact⟨rfl,n,rfl⟩
theorem exact_big {w:World} {u v:Value} {T:List It} (ha:ItRow w u T) (hb:ItRow w v T) :
 Calls Tryz.prog 16 #[u,v] w fun e w'=>e=.returned (.bool true)∧∃ n,w'=w.drewN n:=by
 obtain⟨ad,cap,hu⟩:=ha.len
 obtain⟨ad2,cap2,hv⟩:=hb.len
 have hT:T.length≤9223372036854775807:=by obtain⟨_,h⟩:=ha;exact owns_max h
 have HA:=Lh ha
 have HB:=Lh hb
 subst hu
 subst hv
 clear ha hb
 go_enter Tryz.func16,Tryz.ntmps16
 go_wp2
 go_loopw [5] (fun i wr=>∃ k n:Nat,i=.int .i64 k∧k≤T.length∧wr=w.drewN n) (fun i _=>T.length - (intOf i).toNat)
 case atStart=>exact⟨0,0,by go_num,by omega,rfl⟩
 case round=>
  obtain⟨k,n,rfl,hk,rfl⟩:=hrel
  by_cases hlt:k < T.length
  · obtain⟨x,hx⟩:∃ x,T[k]?=some x:=⟨_,List.getElem?_eq_getElem hlt⟩
    obtain⟨g,c1,hg,hgl,a0,a1,a2,a3,a4,a5,a6,a7,a8⟩:=HA.out.at hx
    obtain⟨g2,c2,hg2,hgl2,b0,b1,b2,b3,b4,b5,b6,b7,b8⟩:=HB.out.at hx
    simp only[Value.slice.injEq,true_and] at hg hg2
    obtain⟨rfl,rfl⟩:=hg
    obtain⟨rfl,rfl⟩:=hg2
    have hkz: (k:Int) < (T.length:Int):=by omega
    clear hx
    go_wp2
    go_quiet (fail)
    go_wp2
    go_roundw
    case rel=>exact⟨k+1,_,by go_num,by omega,rfl⟩
    case measure=>simp[intOf];omega
  · have hkz: (T.length:Int)≤(k:Int):=by omega
    go_wp2
    go_ret
    exact⟨rfl,n,rfl⟩
abbrev svV (x:Sv):Value:=.agg #[.int .i64 x.1.kind,.string x.1.name,.int .i64 x.1.line,.int .i64 x.1.col,.int .i64 x.1.init,x.2.1,.string x.1.role,.string x.1.stage,.string x.1.event,.int .i64 x.1.times,x.2.2,.bool x.1.final]
theorem like_cells {w:World} {k l c l2 c2 ini tm:Int} {nm ro st ev:ByteArray} {fi:Bool} {v1 v2 u1 u2:Value} {ns:List ByteArray} {S T:List It} (hn:NmRow w v1 ns) (hm:NmRow w u1 ns) (hi:ItRow w v2 S) (hj:ItRow w u2 T) (hST:S.map bare=T.map bare) :
 Calls Tryz.prog 15 #[.agg #[.int .i64 k,.string nm,.int .i64 l,.int .i64 c,.int .i64 ini,v1,.string ro,.string st,.string ev,.int .i64 tm,v2,.bool fi],.agg #[.int .i64 k,.string nm,.int .i64 l2,.int .i64 c2,.int .i64 ini,u1,.string ro,.string st,.string ev,.int .i64 tm,u2,.bool fi]] w fun e w'=>e=.returned (.bool true)∧Below w.heap.size w w':=by
 have HB:=(((Below.refl _ w).alloc (Nat.le_refl _) (.cells #[.int .i64 k,.string nm,.int .i64 l,.int .i64 c,.int .i64 ini,v1,.string ro,.string st,.string ev,.int .i64 tm,v2,.bool fi] 37)).alloc (by simp) (.cells #[.int .i64 k,.string nm,.int .i64 l2,.int .i64 c2,.int .i64 ini,u1,.string ro,.string st,.string ev,.int .i64 tm,u2,.bool fi] 37))
 have h1:StB ((w.alloc (.cells #[.int .i64 k,.string nm,.int .i64 l,.int .i64 c,.int .i64 ini,v1,.string ro,.string st,.string ev,.int .i64 tm,v2,.bool fi] 37)).alloc (.cells #[.int .i64 k,.string nm,.int .i64 l2,.int .i64 c2,.int .i64 ini,u1,.string ro,.string st,.string ev,.int .i64 tm,u2,.bool fi] 37)) w.heap.size ⟨k,nm,l,c,ini,[],ro,st,ev,tm,[],fi⟩ v1 v2:=StB.alloc (x:=⟨k,nm,l,c,ini,[],ro,st,ev,tm,[],fi⟩) (heap_alloc_new w _) _
 have h2:StB ((w.alloc (.cells #[.int .i64 k,.string nm,.int .i64 l,.int .i64 c,.int .i64 ini,v1,.string ro,.string st,.string ev,.int .i64 tm,v2,.bool fi] 37)).alloc (.cells #[.int .i64 k,.string nm,.int .i64 l2,.int .i64 c2,.int .i64 ini,u1,.string ro,.string st,.string ev,.int .i64 tm,u2,.bool fi] 37)) (w.heap.size+1) ⟨k,nm,l2,c2,ini,[],ro,st,ev,tm,[],fi⟩ u1 u2:=heap_at_size _ _ _ (by simp)
 have hn2:=hn.keep HB
 have hm2:=hm.keep HB
 have hi2:=hi.keep HB
 have hj2:=hj.keep HB
 obtain⟨a0,a1,a2,a3,a4,a5,a6,a7,a8,a9,a10,a11⟩:=h1.facts
 obtain⟨b0,b1,b2,b3,b4,b5,b6,b7,b8,b9,b10,b11⟩:=h2.facts
 dsimp only at a0 a1 a2 a3 a4 a5 a6 a7 a8 a9 a10 a11 b0 b1 b2 b3 b4 b5 b6 b7 b8 b9 b10 b11
 have HC1:=Lh (sameNames_any hn2 hm2)
 have HC2:=Lh (fun n=>same4_any (w:=((w.alloc (.cells #[.int .i64 k,.string nm,.int .i64 l,.int .i64 c,.int .i64 ini,v1,.string ro,.string st,.string ev,.int .i64 tm,v2,.bool fi] 37)).alloc (.cells #[.int .i64 k,.string nm,.int .i64 l2,.int .i64 c2,.int .i64 ini,u1,.string ro,.string st,.string ev,.int .i64 tm,u2,.bool fi] 37)).drewN n) (hi2.drewN n) (hj2.drewN n) hST)
 have HB2:=Lh HB
 clear hn hm hi hj hST HB h1 h2 hn2 hm2 hi2 hj2
 go_enter Tryz.func15,Tryz.ntmps15
 go_wp2_with fail
 refine HC1.out.mono ?_
 rintro e w1 ⟨rfl,n,rfl⟩
 go_wp2_with fail
 refine(HC2.out n).mono ?_
 rintro e w1 ⟨rfl,m,rfl⟩
 go_wp2
 go_ret
 exact⟨rfl,below_drewN HB2.out _⟩
theorem same07_yes {w:World} {u v:Value} {A B:List Sv} (ha:SvRow w u A) (hb:SvRow w v B) (hAB:A.map (·.1)=B.map (·.1)) :
 Calls Tryz.prog 10 #[u,v,.bool true] w fun e w'=>e=.returned (.bool true)∧Below w.heap.size w w':=by
 have hl:A.length=B.length:=by simpa using congrArg List.length hAB
 obtain⟨ad,cap,hu⟩:=ha.len
 obtain⟨ad2,cap2,hv⟩:=hb.len
 rw[←hl] at hv
 have hA:A.length≤9223372036854775807:=by obtain⟨_,h⟩:=ha;exact owns_max h.row
 have HA:=Lh ha
 have HB:=Lh hb
 have HAB:=Lh hAB
 have HL:=Lh hl
 subst hu
 subst hv
 clear ha hb hl hAB
 go_enter Tryz.func10,Tryz.ntmps10
 go_wp2
 go_loopw [7] (fun i wr=>∃ k:Nat,i=.int .i64 k∧k≤A.length∧Hid (Below w.heap.size w wr)) (fun i _=>A.length - (intOf i).toNat)
 case atStart=>exact⟨0,by go_num,by omega,Below.refl _ _⟩
 case round=>
  obtain⟨k,rfl,hk,HBR⟩:=hrel
  by_cases hlt:k < A.length
  · obtain⟨x,hx⟩:∃ x,A[k]?=some x:=⟨_,List.getElem?_eq_getElem hlt⟩
    obtain⟨y,hy⟩:∃ y,B[k]?=some y:=⟨_,List.getElem?_eq_getElem (by rw[←HL.out];exact hlt)⟩
    have hxy:x.1=y.1:=by
     have h1: (A.map (·.1))[k]?=some x.1:=by rw[List.getElem?_map,hx];rfl
     have h2: (B.map (·.1))[k]?=some y.1:=by rw[List.getElem?_map,hy];rfl
     rw[HAB.out,h2] at h1
     exact(Option.some.inj h1).symm
    obtain⟨y1,y2,y3⟩:=y
    have hxy':y1=x.1:=hxy.symm
    subst hxy'
    clear hxy
    obtain⟨g,c1,hg,hgl,-⟩:=(HA.out.keep HBR.out).at hx
    obtain⟨g2,c2,hg2,hgl2,-⟩:=(HB.out.keep HBR.out).at hy
    rw[←HL.out] at hg2
    simp only[Value.slice.injEq,true_and] at hg hg2
    obtain⟨rfl,rfl⟩:=hg
    obtain⟨rfl,rfl⟩:=hg2
    have HXX:Hid (∀ W,Below wr.heap.size wr W→(W.cell? ⟨g,k * 12,none⟩ = some (.int .i64 x.1.kind)∧W.cell? ⟨g,k * 12+1,none⟩ = some (.string x.1.name)∧W.cell? ⟨g,k * 12+2,none⟩ = some (.int .i64 x.1.line)∧W.cell? ⟨g,k * 12+3,none⟩ = some (.int .i64 x.1.col)∧W.cell? ⟨g,k * 12+4,none⟩ = some (.int .i64 x.1.init)∧W.cell? ⟨g,k * 12+5,none⟩ = some x.2.1∧W.cell? ⟨g,k * 12+6,none⟩ = some (.string x.1.role)∧W.cell? ⟨g,k * 12+7,none⟩ = some (.string x.1.stage)∧W.cell? ⟨g,k * 12+8,none⟩ = some (.string x.1.event)∧W.cell? ⟨g,k * 12+9,none⟩ = some (.int .i64 x.1.times)∧W.cell? ⟨g,k * 12+10,none⟩ = some x.2.2∧W.cell? ⟨g,k * 12+11,none⟩ = some (.bool x.1.final)∧W.cell? ⟨g2,k * 12,none⟩ = some (.int .i64 x.1.kind)∧W.cell? ⟨g2,k * 12+1,none⟩ = some (.string x.1.name)∧W.cell? ⟨g2,k * 12+2,none⟩ = some (.int .i64 x.1.line)∧W.cell? ⟨g2,k * 12+3,none⟩ = some (.int .i64 x.1.col)∧W.cell? ⟨g2,k * 12+4,none⟩ = some (.int .i64 x.1.init)∧W.cell? ⟨g2,k * 12+5,none⟩ = some y2∧W.cell? ⟨g2,k * 12+6,none⟩ = some (.string x.1.role)∧W.cell? ⟨g2,k * 12+7,none⟩ = some (.string x.1.stage)∧W.cell? ⟨g2,k * 12+8,none⟩ = some (.string x.1.event)∧W.cell? ⟨g2,k * 12+9,none⟩ = some (.int .i64 x.1.times)∧W.cell? ⟨g2,k * 12+10,none⟩ = some y3∧W.cell? ⟨g2,k * 12+11,none⟩ = some (.bool x.1.final))∧NmRow W x.2.1 x.1.names∧ItRow W x.2.2 x.1.ifs∧NmRow W y2 x.1.names∧ItRow W y3 x.1.ifs):=by
     intro W hW
     have hBW:=HBR.out.trans (hW.mono HBR.out.size)
     obtain⟨g',c',q,_,a0,a1,a2,a3,a4,a5,a6,a7,a8,a9,a10,a11,an,ai⟩:=(HA.out.keep hBW).at hx
     obtain⟨g2',c2',q2,_,b0,b1,b2,b3,b4,b5,b6,b7,b8,b9,b10,b11,bn,bi⟩:=(HB.out.keep hBW).at hy
     simp only[Value.slice.injEq,Option.some.injEq,Addr.mk.injEq,true_and,and_true] at q q2
     obtain⟨rfl,rfl⟩:=q
     obtain⟨rfl,_⟩:=q2
     exact⟨⟨a0,a1,a2,a3,a4,a5,a6,a7,a8,a9,a10,a11,b0,b1,b2,b3,b4,b5,b6,b7,b8,b9,b10,b11⟩,an,ai,bn,bi⟩
    have HX:Hid (∀ W,Below wr.heap.size wr W→(W.cell? ⟨g,k * 12,none⟩ = some (.int .i64 x.1.kind)∧W.cell? ⟨g,k * 12+1,none⟩ = some (.string x.1.name)∧W.cell? ⟨g,k * 12+2,none⟩ = some (.int .i64 x.1.line)∧W.cell? ⟨g,k * 12+3,none⟩ = some (.int .i64 x.1.col)∧W.cell? ⟨g,k * 12+4,none⟩ = some (.int .i64 x.1.init)∧W.cell? ⟨g,k * 12+5,none⟩ = some x.2.1∧W.cell? ⟨g,k * 12+6,none⟩ = some (.string x.1.role)∧W.cell? ⟨g,k * 12+7,none⟩ = some (.string x.1.stage)∧W.cell? ⟨g,k * 12+8,none⟩ = some (.string x.1.event)∧W.cell? ⟨g,k * 12+9,none⟩ = some (.int .i64 x.1.times)∧W.cell? ⟨g,k * 12+10,none⟩ = some x.2.2∧W.cell? ⟨g,k * 12+11,none⟩ = some (.bool x.1.final)∧W.cell? ⟨g2,k * 12,none⟩ = some (.int .i64 x.1.kind)∧W.cell? ⟨g2,k * 12+1,none⟩ = some (.string x.1.name)∧W.cell? ⟨g2,k * 12+2,none⟩ = some (.int .i64 x.1.line)∧W.cell? ⟨g2,k * 12+3,none⟩ = some (.int .i64 x.1.col)∧W.cell? ⟨g2,k * 12+4,none⟩ = some (.int .i64 x.1.init)∧W.cell? ⟨g2,k * 12+5,none⟩ = some y2∧W.cell? ⟨g2,k * 12+6,none⟩ = some (.string x.1.role)∧W.cell? ⟨g2,k * 12+7,none⟩ = some (.string x.1.stage)∧W.cell? ⟨g2,k * 12+8,none⟩ = some (.string x.1.event)∧W.cell? ⟨g2,k * 12+9,none⟩ = some (.int .i64 x.1.times)∧W.cell? ⟨g2,k * 12+10,none⟩ = some y3∧W.cell? ⟨g2,k * 12+11,none⟩ = some (.bool x.1.final))):=fun W hW=>(HXX.out W hW).1
    have HLK:Hid (∀ W,Below wr.heap.size wr W→Calls Tryz.prog 15 #[svV x,.agg #[.int .i64 x.1.kind,.string x.1.name,.int .i64 x.1.line,.int .i64 x.1.col,.int .i64 x.1.init,y2,.string x.1.role,.string x.1.stage,.string x.1.event,.int .i64 x.1.times,y3,.bool x.1.final]] W fun e w'=>e=.returned (.bool true)∧Below W.heap.size W w'):=by
     intro W hW
     obtain⟨_,an,ai,bn,bi⟩:=HXX.out W hW
     exact like_cells an bn ai bi rfl
    have HEX:Hid (∀ W,Below wr.heap.size wr W→Calls Tryz.prog 16 #[x.2.2,y3] W fun e w'=>e=.returned (.bool true)∧∃ n,w'=W.drewN n):=by
     intro W hW
     obtain⟨_,_,ai,_,bi⟩:=HXX.out W hW
     exact exact_big ai bi
    have hkz: (k:Int) < (A.length:Int):=by omega
    clear HXX hx hy
    have hbz:Below wr.heap.size wr wr:=Below.refl _ _
    go_wp2_with fail
    go_cut [58] (fun c wx=>c=.bool false∧Hid (Below wr.heap.size wr wx))
    case first=>
     obtain⟨a0,a1,a2,a3,a4,a5,a6,a7,a8,a9,a10,a11,b0,b1,b2,b3,b4,b5,b6,b7,b8,b9,b10,b11⟩:=HX.out wr hbz
     have hbz:Below wr.heap.size wr wr.drew:=(Below.refl _ _).drew
     refine wp_region_held_drew (S:=(fun w'=>w'.cell? ⟨g,k * 12,none⟩ = some (.int .i64 x.1.kind)∧w'.cell? ⟨g,k * 12+1,none⟩ = some (.string x.1.name)∧w'.cell? ⟨g,k * 12+2,none⟩ = some (.int .i64 x.1.line)∧w'.cell? ⟨g,k * 12+3,none⟩ = some (.int .i64 x.1.col)∧w'.cell? ⟨g,k * 12+4,none⟩ = some (.int .i64 x.1.init)∧w'.cell? ⟨g,k * 12+5,none⟩ = some x.2.1∧w'.cell? ⟨g,k * 12+6,none⟩ = some (.string x.1.role)∧w'.cell? ⟨g,k * 12+7,none⟩ = some (.string x.1.stage)∧w'.cell? ⟨g,k * 12+8,none⟩ = some (.string x.1.event)∧w'.cell? ⟨g,k * 12+9,none⟩ = some (.int .i64 x.1.times)∧w'.cell? ⟨g,k * 12+10,none⟩ = some x.2.2∧w'.cell? ⟨g,k * 12+11,none⟩ = some (.bool x.1.final)∧w'.cell? ⟨g2,k * 12,none⟩ = some (.int .i64 x.1.kind)∧w'.cell? ⟨g2,k * 12+1,none⟩ = some (.string x.1.name)∧w'.cell? ⟨g2,k * 12+2,none⟩ = some (.int .i64 x.1.line)∧w'.cell? ⟨g2,k * 12+3,none⟩ = some (.int .i64 x.1.col)∧w'.cell? ⟨g2,k * 12+4,none⟩ = some (.int .i64 x.1.init)∧w'.cell? ⟨g2,k * 12+5,none⟩ = some y2∧w'.cell? ⟨g2,k * 12+6,none⟩ = some (.string x.1.role)∧w'.cell? ⟨g2,k * 12+7,none⟩ = some (.string x.1.stage)∧w'.cell? ⟨g2,k * 12+8,none⟩ = some (.string x.1.event)∧w'.cell? ⟨g2,k * 12+9,none⟩ = some (.int .i64 x.1.times)∧w'.cell? ⟨g2,k * 12+10,none⟩ = some y3∧w'.cell? ⟨g2,k * 12+11,none⟩ = some (.bool x.1.final))) (by kernel_rfl) ?_ (fun hHeld=>?_)
     · exact HX.out _ hbz
     refine wpAnyH_take (i:=0) (v:=?v0) rfl (by kernel_rfl) (by kernel_rfl) (by kernel_rfl) (fun _ _ _ h=>h) (Or.inl ⟨by rfl,?y0⟩) (by assumption) ?r0
     case y0=>((intro w hSw;(try dsimp only at hSw);go_simp) <;> (try with_reducible rfl))
     (try go_simp)
     refine wpAnyH_take (i:=1) (v:=?v1) rfl (by kernel_rfl) (by kernel_rfl) (by kernel_rfl) (fun _ _ _ h=>h) (Or.inl ⟨by rfl,?y1⟩) (by assumption) ?r1
     case y1=>((intro w hSw;(try dsimp only at hSw);go_simp) <;> (try with_reducible rfl))
     (try go_simp)
     refine wpAnyH_take (i:=2) (v:=?v2) rfl (by kernel_rfl) (by kernel_rfl) (by kernel_rfl) (fun _ _ _ h=>h) (Or.inl ⟨by rfl,?y2⟩) (by assumption) ?r2
     case y2=>((intro w hSw;(try dsimp only at hSw);go_simp) <;> (try with_reducible rfl))
     (try go_simp)
     refine wpAnyH_take (i:=3) (v:=?v3) rfl (by kernel_rfl) (by kernel_rfl) (by kernel_rfl) (fun _ _ _ h=>h) (Or.inl ⟨by rfl,?y3⟩) (by assumption) ?r3
     case y3=>((intro w hSw;(try dsimp only at hSw);go_simp) <;> (try with_reducible rfl))
     (try go_simp)
     refine wpAnyH_take (i:=4) (v:=?v4) rfl (by kernel_rfl) (by kernel_rfl) (by kernel_rfl) (fun _ _ _ h=>h) (Or.inl ⟨by rfl,?y4⟩) (by assumption) ?r4
     case y4=>((intro w hSw;(try dsimp only at hSw);go_simp) <;> (try with_reducible rfl))
     (try go_simp)
     refine wpAnyH_take (i:=5) (v:=?v5) rfl (by kernel_rfl) (by kernel_rfl) (by kernel_rfl) (fun _ _ _ h=>h) (Or.inl ⟨by rfl,?y5⟩) (by assumption) ?r5
     case y5=>((intro w hSw;(try dsimp only at hSw);go_simp) <;> (try with_reducible rfl))
     (try go_simp)
     refine wpAnyH_take (i:=6) (v:=?v6) rfl (by kernel_rfl) (by kernel_rfl) (by kernel_rfl) (fun _ _ _ h=>h) (Or.inl ⟨by rfl,?y6⟩) (by assumption) ?r6
     case y6=>((intro w hSw;(try dsimp only at hSw);go_simp) <;> (try with_reducible rfl))
     (try go_simp)
     refine wpAnyH_take (i:=7) (v:=?v7) rfl (by kernel_rfl) (by kernel_rfl) (by kernel_rfl) (fun _ _ _ h=>h) (Or.inl ⟨by rfl,?y7⟩) (by assumption) ?r7
     case y7=>((intro w hSw;(try dsimp only at hSw);go_simp) <;> (try with_reducible rfl))
     (try go_simp)
     refine wpAnyH_ready (rs:=[8]) (by kernel_rfl) (by simp) ?_
     refine AllReadyH.cons rfl (fun K hK=>?_) AllReadyH.nil
     go_simp
     refine(HLK.out _ hbz).mono ?_
     rintro e w4 ⟨rfl,hbs⟩
     have hbz:=hbz.trans (hbs.mono hbz.size)
     clear hbs
     refine hK.out _ _ ?_ (fun hHeld=>?_)
     · exact HX.out _ hbz
     clear hK K
     (try go_simp)
     refine wpAnyH_take (i:=9) (v:=?v9) rfl (by kernel_rfl) (by kernel_rfl) (by kernel_rfl) (fun _ _ _ h=>h) (Or.inl ⟨by rfl,?y9⟩) (by assumption) ?r9
     case y9=>((intro w hSw;(try dsimp only at hSw);go_simp) <;> (try with_reducible rfl))
     (try go_simp)
     refine wpAnyH_take (i:=10) (v:=?v10) rfl (by kernel_rfl) (by kernel_rfl) (by kernel_rfl) (fun _ _ _ h=>h) (Or.inl ⟨by rfl,?y10⟩) (by assumption) ?r10
     case y10=>((intro w hSw;(try dsimp only at hSw);go_simp) <;> (try with_reducible rfl))
     (try go_simp)
     refine wpAnyH_take (i:=11) (v:=?v11) rfl (by kernel_rfl) (by kernel_rfl) (by kernel_rfl) (fun _ _ _ h=>h) (Or.inl ⟨by rfl,?y11⟩) (by assumption) ?r11
     case y11=>((intro w hSw;(try dsimp only at hSw);go_simp) <;> (try with_reducible rfl))
     (try go_simp)
     refine wpAnyH_take (i:=12) (v:=?v12) rfl (by kernel_rfl) (by kernel_rfl) (by kernel_rfl) (fun _ _ _ h=>h) (Or.inl ⟨by rfl,?y12⟩) (by assumption) ?r12
     case y12=>((intro w hSw;(try dsimp only at hSw);go_simp) <;> (try with_reducible rfl))
     (try go_simp)
     refine wpAnyH_take (i:=13) (v:=?v13) rfl (by kernel_rfl) (by kernel_rfl) (by kernel_rfl) (fun _ _ _ h=>h) (Or.inl ⟨by rfl,?y13⟩) (by assumption) ?r13
     case y13=>((intro w hSw;(try dsimp only at hSw);go_simp) <;> (try with_reducible rfl))
     (try go_simp)
     refine wpAnyH_take (i:=14) (v:=?v14) rfl (by kernel_rfl) (by kernel_rfl) (by kernel_rfl) (fun _ _ _ h=>h) (Or.inl ⟨by rfl,?y14⟩) (by assumption) ?r14
     case y14=>((intro w hSw;(try dsimp only at hSw);go_simp) <;> (try with_reducible rfl))
     (try go_simp)
     refine wpAnyH_take (i:=15) (v:=?v15) rfl (by kernel_rfl) (by kernel_rfl) (by kernel_rfl) (fun _ _ _ h=>h) (Or.inl ⟨by rfl,?y15⟩) (by assumption) ?r15
     case y15=>((intro w hSw;(try dsimp only at hSw);go_simp) <;> (try with_reducible rfl))
     (try go_simp)
     refine wpAnyH_take (i:=16) (v:=?v16) rfl (by kernel_rfl) (by kernel_rfl) (by kernel_rfl) (fun _ _ _ h=>h) (Or.inl ⟨by rfl,?y16⟩) (by assumption) ?r16
     case y16=>((intro w hSw;(try dsimp only at hSw);go_simp) <;> (try with_reducible rfl))
     (try go_simp)
     refine wpAnyH_take (i:=17) (v:=?v17) rfl (by kernel_rfl) (by kernel_rfl) (by kernel_rfl) (fun _ _ _ h=>h) (Or.inl ⟨by rfl,?y17⟩) (by assumption) ?r17
     case y17=>((intro w hSw;(try dsimp only at hSw);go_simp) <;> (try with_reducible rfl))
     (try go_simp)
     refine wpAnyH_take (i:=18) (v:=?v18) rfl (by kernel_rfl) (by kernel_rfl) (by kernel_rfl) (fun _ _ _ h=>h) (Or.inl ⟨by rfl,?y18⟩) (by assumption) ?r18
     case y18=>((intro w hSw;(try dsimp only at hSw);go_simp) <;> (try with_reducible rfl))
     (try go_simp)
     refine wpAnyH_take (i:=19) (v:=?v19) rfl (by kernel_rfl) (by kernel_rfl) (by kernel_rfl) (fun _ _ _ h=>h) (Or.inl ⟨by rfl,?y19⟩) (by assumption) ?r19
     case y19=>((intro w hSw;(try dsimp only at hSw);go_simp) <;> (try with_reducible rfl))
     (try go_simp)
     refine wpAnyH_take (i:=20) (v:=?v20) rfl (by kernel_rfl) (by kernel_rfl) (by kernel_rfl) (fun _ _ _ h=>h) (Or.inl ⟨by rfl,?y20⟩) (by assumption) ?r20
     case y20=>((intro w hSw;(try dsimp only at hSw);go_simp) <;> (try with_reducible rfl))
     (try go_simp)
     refine wpAnyH_take (i:=21) (v:=?v21) rfl (by kernel_rfl) (by kernel_rfl) (by kernel_rfl) (fun _ _ _ h=>h) (Or.inl ⟨by rfl,?y21⟩) (by assumption) ?r21
     case y21=>((intro w hSw;(try dsimp only at hSw);go_simp) <;> (try with_reducible rfl))
     (try go_simp)
     refine wpAnyH_take (i:=22) (v:=?v22) rfl (by kernel_rfl) (by kernel_rfl) (by kernel_rfl) (fun _ _ _ h=>h) (Or.inl ⟨by rfl,?y22⟩) (by assumption) ?r22
     case y22=>((intro w hSw;(try dsimp only at hSw);go_simp) <;> (try with_reducible rfl))
     (try go_simp)
     refine wpAnyH_take (i:=23) (v:=?v23) rfl (by kernel_rfl) (by kernel_rfl) (by kernel_rfl) (fun _ _ _ h=>h) (Or.inl ⟨by rfl,?y23⟩) (by assumption) ?r23
     case y23=>((intro w hSw;(try dsimp only at hSw);go_simp) <;> (try with_reducible rfl))
     (try go_simp)
     refine wpAnyH_take (i:=24) (v:=?v24) rfl (by kernel_rfl) (by kernel_rfl) (by kernel_rfl) (fun _ _ _ h=>h) (Or.inl ⟨by rfl,?y24⟩) (by assumption) ?r24
     case y24=>((intro w hSw;(try dsimp only at hSw);go_simp) <;> (try with_reducible rfl))
     (try go_simp)
     refine wpAnyH_take (i:=25) (v:=?v25) rfl (by kernel_rfl) (by kernel_rfl) (by kernel_rfl) (fun _ _ _ h=>h) (Or.inl ⟨by rfl,?y25⟩) (by assumption) ?r25
     case y25=>((intro w hSw;(try dsimp only at hSw);go_simp) <;> (try with_reducible rfl))
     (try go_simp)
     refine wpAnyH_take (i:=26) (v:=?v26) rfl (by kernel_rfl) (by kernel_rfl) (by kernel_rfl) (fun _ _ _ h=>h) (Or.inl ⟨by rfl,?y26⟩) (by assumption) ?r26
     case y26=>((intro w hSw;(try dsimp only at hSw);go_simp) <;> (try with_reducible rfl))
     (try go_simp)
     refine wpAnyH_take (i:=27) (v:=?v27) rfl (by kernel_rfl) (by kernel_rfl) (by kernel_rfl) (fun _ _ _ h=>h) (Or.inl ⟨by rfl,?y27⟩) (by assumption) ?r27
     case y27=>((intro w hSw;(try dsimp only at hSw);go_simp) <;> (try with_reducible rfl))
     (try go_simp)
     refine wpAnyH_take (i:=28) (v:=?v28) rfl (by kernel_rfl) (by kernel_rfl) (by kernel_rfl) (fun _ _ _ h=>h) (Or.inl ⟨by rfl,?y28⟩) (by assumption) ?r28
     case y28=>((intro w hSw;(try dsimp only at hSw);go_simp) <;> (try with_reducible rfl))
     (try go_simp)
     refine wpAnyH_take (i:=29) (v:=?v29) rfl (by kernel_rfl) (by kernel_rfl) (by kernel_rfl) (fun _ _ _ h=>h) (Or.inl ⟨by rfl,?y29⟩) (by assumption) ?r29
     case y29=>((intro w hSw;(try dsimp only at hSw);go_simp) <;> (try with_reducible rfl))
     (try go_simp)
     refine wpAnyH_take (i:=30) (v:=?v30) rfl (by kernel_rfl) (by kernel_rfl) (by kernel_rfl) (fun _ _ _ h=>h) (Or.inl ⟨by rfl,?y30⟩) (by assumption) ?r30
     case y30=>((intro w hSw;(try dsimp only at hSw);go_simp) <;> (try with_reducible rfl))
     (try go_simp)
     refine wpAnyH_take (i:=31) (v:=?v31) rfl (by kernel_rfl) (by kernel_rfl) (by kernel_rfl) (fun _ _ _ h=>h) (Or.inl ⟨by rfl,?y31⟩) (by assumption) ?r31
     case y31=>((intro w hSw;(try dsimp only at hSw);go_simp) <;> (try with_reducible rfl))
     (try go_simp)
     refine wpAnyH_take (i:=32) (v:=?v32) rfl (by kernel_rfl) (by kernel_rfl) (by kernel_rfl) (fun _ _ _ h=>h) (Or.inl ⟨by rfl,?y32⟩) (by assumption) ?r32
     case y32=>((intro w hSw;(try dsimp only at hSw);go_simp) <;> (try with_reducible rfl))
     (try go_simp)
     refine wpAnyH_take (i:=33) (v:=?v33) rfl (by kernel_rfl) (by kernel_rfl) (by kernel_rfl) (fun _ _ _ h=>h) (Or.inl ⟨by rfl,?y33⟩) (by assumption) ?r33
     case y33=>((intro w hSw;(try dsimp only at hSw);go_simp) <;> (try with_reducible rfl))
     (try go_simp)
     refine wpAnyH_take (i:=34) (v:=?v34) rfl (by kernel_rfl) (by kernel_rfl) (by kernel_rfl) (fun _ _ _ h=>h) (Or.inl ⟨by rfl,?y34⟩) (by assumption) ?r34
     case y34=>((intro w hSw;(try dsimp only at hSw);go_simp) <;> (try with_reducible rfl))
     (try go_simp)
     refine wpAnyH_ready (rs:=[35]) (by kernel_rfl) (by simp) ?_
     refine AllReadyH.cons rfl (fun K hK=>?_) AllReadyH.nil
     go_simp
     refine(HEX.out _ hbz).mono ?_
     rintro e w4 ⟨rfl,n,rfl⟩
     have hbz:=below_drewN hbz n
     refine hK.out _ _ ?_ (fun hHeld=>?_)
     · exact HX.out _ hbz
     clear hK K
     (try go_simp)
     refine wpAnyH_take (i:=36) (v:=?v36) rfl (by kernel_rfl) (by kernel_rfl) (by kernel_rfl) (fun _ _ _ h=>h) (Or.inl ⟨by rfl,?y36⟩) (by assumption) ?r36
     case y36=>((intro w hSw;(try dsimp only at hSw);go_simp) <;> (try with_reducible rfl))
     (try go_simp)
     refine wpAnyH_take (i:=37) (v:=?v37) rfl (by kernel_rfl) (by kernel_rfl) (by kernel_rfl) (fun _ _ _ h=>h) (Or.inl ⟨by rfl,?y37⟩) (by assumption) ?r37
     case y37=>((intro w hSw;(try dsimp only at hSw);go_simp) <;> (try with_reducible rfl))
     (try go_simp)
     refine wpAnyH_take (i:=38) (v:=?v38) rfl (by kernel_rfl) (by kernel_rfl) (by kernel_rfl) (fun _ _ _ h=>h) (Or.inl ⟨by rfl,?y38⟩) (by assumption) ?r38
     case y38=>((intro w hSw;(try dsimp only at hSw);go_simp) <;> (try with_reducible rfl))
     (try go_simp)
     refine wpAnyH_take (i:=39) (v:=?v39) rfl (by kernel_rfl) (by kernel_rfl) (by kernel_rfl) (fun _ _ _ h=>h) (Or.inl ⟨by rfl,?y39⟩) (by assumption) ?r39
     case y39=>((intro w hSw;(try dsimp only at hSw);go_simp) <;> (try with_reducible rfl))
     (try go_simp)
     refine wpAnyH_done (by kernel_rfl) ?_ _
     all_goals
      go_wp2_with fail
      go_meet
      exact⟨rfl,Lh hbz⟩
    case rest=>
     obtain⟨rfl,hbz⟩:=hcut
     have HFB:=Lh (HBR.out.trans (hbz.out.mono HBR.out.size))
     clear hbz HX HLK HEX
     go_wp2
     go_roundw
     case rel=>first|exact⟨k+1,by go_num,by omega,HFB⟩ | ((repeat apply Exists.intro);exact⟨⟨k+1,by go_num,by omega,HFB⟩,rfl⟩)
     case measure=>simp[intOf];omega
  · have hkz: (A.length:Int)≤(k:Int):=by omega
    go_wp2
    go_ret
    exact⟨rfl,HBR.out⟩
end Go.Proofs.YthlofmnmacpogaaGreatDoor
