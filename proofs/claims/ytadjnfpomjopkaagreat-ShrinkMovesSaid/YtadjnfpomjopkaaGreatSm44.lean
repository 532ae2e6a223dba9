import Derived.Test.YtadjnfpomjopkaaGreatSm43
import Derived.Test.YtadjnfpomjopkaaGreatSm09
namespace Go.Proofs.YtadjnfpomjopkaaGreat
open Go.RowKit
theorem RowE.get {α:Type} {E:ElE α} {k:Nat} {w:World} {v:Value} {T:List α} (_h:RowE E k w v T) {i:Nat} (hi:i < T.length):∃ a,T[i]?=some a:=⟨_,List.getElem?_eq_getElem hi⟩
theorem lt_int {k n:Nat} (h:k < n): (k:Int) < (n:Int):=by omega
theorem nlt_int {k n:Nat} (h:¬k < n):¬(k:Int) < (n:Int):=by omega
def GrPost (P:Prop) (w:World):Ending→World→Prop:=fun e w'=>∃ b,e=.returned (.bool b)∧Hid (b=false→P)∧Below w.heap.size w w'
def Not12 (M:Mdl):Prop:=M.guards.length≤14∧M.miles.length≤10∧M.stages.length≤10∧M.events.length≤10∧M.attrs.length≤10∧M.users.length≤10∧M.roles.length≤10∧M.sods.length≤10∧M.order.length≤40∧M.inits.length≤10
def NotC (M:Mdl):Prop:=Not12 M∧(∀ (i:Nat) (a:Gd),M.guards[i]?=some a→a.ifs.length≤80)∧(∀ (i:Nat) (a:Ml),M.miles[i]?=some a→a.ifs.length≤80)
set_option maxRecDepth 100000 in
set_option maxHeartbeats 1200000 in
theorem great12c_any {w:World} {m0 m1 m2 m3 m4 m5 m6 m7 m8 m9:Value} {M:Mdl} (hm:MdR w m0 m1 m2 m3 m4 m5 m6 m7 m8 m9 M) :
 Calls Tryz.prog 4 #[.agg #[m0,m1,m2,m3,m4,m5,m6,m7,m8,m9]] w (GrPost (NotC M) w):=by
 obtain⟨a0,k0,e0⟩:=hm.attrs.len
 obtain⟨a1,k1,e1⟩:=hm.inits.len
 obtain⟨a2,k2,e2⟩:=hm.users.len
 obtain⟨a3,k3,e3⟩:=hm.roles.len
 obtain⟨a4,k4,e4⟩:=hm.stages.len
 obtain⟨a5,k5,e5⟩:=hm.events.len
 obtain⟨a6,k6,e6⟩:=hm.guards.len
 obtain⟨a7,k7,e7⟩:=hm.miles.len
 obtain⟨a8,k8,e8⟩:=hm.sods.len
 obtain⟨a9,k9,e9⟩:=hm.order.len
 obtain⟨n0,hn0⟩:∃ n,M.attrs.length=n:=⟨_,rfl⟩
 obtain⟨n1,hn1⟩:∃ n,M.inits.length=n:=⟨_,rfl⟩
 obtain⟨n2,hn2⟩:∃ n,M.users.length=n:=⟨_,rfl⟩
 obtain⟨n3,hn3⟩:∃ n,M.roles.length=n:=⟨_,rfl⟩
 obtain⟨n4,hn4⟩:∃ n,M.stages.length=n:=⟨_,rfl⟩
 obtain⟨n5,hn5⟩:∃ n,M.events.length=n:=⟨_,rfl⟩
 obtain⟨n6,hn6⟩:∃ n,M.guards.length=n:=⟨_,rfl⟩
 obtain⟨n7,hn7⟩:∃ n,M.miles.length=n:=⟨_,rfl⟩
 obtain⟨n8,hn8⟩:∃ n,M.sods.length=n:=⟨_,rfl⟩
 obtain⟨n9,hn9⟩:∃ n,M.order.length=n:=⟨_,rfl⟩
 rw[hn0] at e0
 subst e0
 rw[hn1] at e1
 subst e1
 rw[hn2] at e2
 subst e2
 rw[hn3] at e3
 subst e3
 rw[hn4] at e4
 subst e4
 rw[hn5] at e5
 subst e5
 rw[hn6] at e6
 subst e6
 rw[hn7] at e7
 subst e7
 rw[hn8] at e8
 subst e8
 rw[hn9] at e9
 subst e9
 obtain⟨W1,hW1⟩:∃ W1,w.alloc (.cells #[.slice a0 n0 k0,.slice a1 n1 k1,.slice a2 n2 k2,.slice a3 n3 k3,.slice a4 n4 k4,.slice a5 n5 k5,.slice a6 n6 k6,.slice a7 n7 k7,.slice a8 n8 k8,.slice a9 n9 k9] 32)=W1:=⟨_,rfl⟩
 have hb1:Below w.heap.size w W1:=by rw[←hW1];exact(Below.refl _ w).alloc (Nat.le_refl _) _
 have xm:Blk W1 w.heap.size #[.slice a0 n0 k0,.slice a1 n1 k1,.slice a2 n2 k2,.slice a3 n3 k3,.slice a4 n4 k4,.slice a5 n5 k5,.slice a6 n6 k6,.slice a7 n7 k7,.slice a8 n8 k8,.slice a9 n9 k9] 32:=by rw[←hW1];exact Blk.new _ _ _
 have HM:=Lib.hid (hm.below hb1);have HB1:=Lib.hid hb1;have HXM:=Lib.hid xm
 have HN:Hid (M.attrs.length=n0∧M.inits.length=n1∧M.users.length=n2∧M.roles.length=n3∧M.stages.length=n4∧M.events.length=n5∧M.guards.length=n6∧M.miles.length=n7∧M.sods.length=n8∧M.order.length=n9):=⟨hn0,hn1,hn2,hn3,hn4,hn5,hn6,hn7,hn8,hn9⟩
 have c0:=xm.cell (i:=0) rfl
 have c1:=xm.cell (i:=1) rfl
 have c2:=xm.cell (i:=2) rfl
 have c3:=xm.cell (i:=3) rfl
 have c4:=xm.cell (i:=4) rfl
 have c5:=xm.cell (i:=5) rfl
 have c6:=xm.cell (i:=6) rfl
 have c7:=xm.cell (i:=7) rfl
 have c8:=xm.cell (i:=8) rfl
 have c9:=xm.cell (i:=9) rfl
 clear hm hb1 xm hn0 hn1 hn2 hn3 hn4 hn5 hn6 hn7 hn8 hn9
 by_cases p0:14 < n6
 · have q0: (14:Int) < (n6:Int):=lt_int p0
   clear p0
   go_enter Tryz.func4,Tryz.ntmps4
   go_wp2_with fail
   go_ret
   exact⟨true,rfl,Lib.hid (fun h=>by cases h),HB1.out⟩
 have q0:¬(14:Int) < (n6:Int):=nlt_int p0
 by_cases p1:10 < n7
 · have q1: (10:Int) < (n7:Int):=lt_int p1
   clear p1
   clear p0
   go_enter Tryz.func4,Tryz.ntmps4
   go_wp2_with fail
   go_ret
   exact⟨true,rfl,Lib.hid (fun h=>by cases h),HB1.out⟩
 have q1:¬(10:Int) < (n7:Int):=nlt_int p1
 by_cases p2:10 < n4
 · have q2: (10:Int) < (n4:Int):=lt_int p2
   clear p2
   clear p0 p1
   go_enter Tryz.func4,Tryz.ntmps4
   go_wp2_with fail
   go_ret
   exact⟨true,rfl,Lib.hid (fun h=>by cases h),HB1.out⟩
 have q2:¬(10:Int) < (n4:Int):=nlt_int p2
 by_cases p3:10 < n5
 · have q3: (10:Int) < (n5:Int):=lt_int p3
   clear p3
   clear p0 p1 p2
   go_enter Tryz.func4,Tryz.ntmps4
   go_wp2_with fail
   go_ret
   exact⟨true,rfl,Lib.hid (fun h=>by cases h),HB1.out⟩
 have q3:¬(10:Int) < (n5:Int):=nlt_int p3
 by_cases p4:10 < n0
 · have q4: (10:Int) < (n0:Int):=lt_int p4
   clear p4
   clear p0 p1 p2 p3
   go_enter Tryz.func4,Tryz.ntmps4
   go_wp2_with fail
   go_ret
   exact⟨true,rfl,Lib.hid (fun h=>by cases h),HB1.out⟩
 have q4:¬(10:Int) < (n0:Int):=nlt_int p4
 by_cases p5:10 < n2
 · have q5: (10:Int) < (n2:Int):=lt_int p5
   clear p5
   clear p0 p1 p2 p3 p4
   go_enter Tryz.func4,Tryz.ntmps4
   go_wp2_with fail
   go_ret
   exact⟨true,rfl,Lib.hid (fun h=>by cases h),HB1.out⟩
 have q5:¬(10:Int) < (n2:Int):=nlt_int p5
 by_cases p6:10 < n3
 · have q6: (10:Int) < (n3:Int):=lt_int p6
   clear p6
   clear p0 p1 p2 p3 p4 p5
   go_enter Tryz.func4,Tryz.ntmps4
   go_wp2_with fail
   go_ret
   exact⟨true,rfl,Lib.hid (fun h=>by cases h),HB1.out⟩
 have q6:¬(10:Int) < (n3:Int):=nlt_int p6
 by_cases p7:10 < n8
 · have q7: (10:Int) < (n8:Int):=lt_int p7
   clear p7
   clear p0 p1 p2 p3 p4 p5 p6
   go_enter Tryz.func4,Tryz.ntmps4
   go_wp2_with fail
   go_ret
   exact⟨true,rfl,Lib.hid (fun h=>by cases h),HB1.out⟩
 have q7:¬(10:Int) < (n8:Int):=nlt_int p7
 by_cases p8:40 < n9
 · have q8: (40:Int) < (n9:Int):=lt_int p8
   clear p8
   clear p0 p1 p2 p3 p4 p5 p6 p7
   go_enter Tryz.func4,Tryz.ntmps4
   go_wp2_with fail
   go_ret
   exact⟨true,rfl,Lib.hid (fun h=>by cases h),HB1.out⟩
 have q8:¬(40:Int) < (n9:Int):=nlt_int p8
 by_cases p9:10 < n1
 · have q9: (10:Int) < (n1:Int):=lt_int p9
   clear p9
   clear p0 p1 p2 p3 p4 p5 p6 p7 p8
   go_enter Tryz.func4,Tryz.ntmps4
   go_wp2_with fail
   go_ret
   exact⟨true,rfl,Lib.hid (fun h=>by cases h),HB1.out⟩
 have q9:¬(10:Int) < (n1:Int):=nlt_int p9
 have HNT:Hid (Not12 M):=by
  obtain⟨z0,z1,z2,z3,z4,z5,z6,z7,z8,z9⟩:=HN.out
  unfold Hid Not12
  rw[z0,z1,z2,z3,z4,z5,z6,z7,z8,z9]
  exact⟨Nat.le_of_not_lt p0,Nat.le_of_not_lt p1,Nat.le_of_not_lt p2,Nat.le_of_not_lt p3,Nat.le_of_not_lt p4,Nat.le_of_not_lt p5,Nat.le_of_not_lt p6,Nat.le_of_not_lt p7,Nat.le_of_not_lt p8,Nat.le_of_not_lt p9⟩
 clear p0 p1 p2 p3 p4 p5 p6 p7 p8 p9
 go_enter Tryz.func4,Tryz.ntmps4
 go_wp2_with fail
 go_loopw [3] (fun s wr=>∃ k:Nat,k≤n6∧s=.int .i64 k∧wr=W1∧Hid (∀ i a,i < k→M.guards[i]?=some a→a.ifs.length≤80)) (fun s _=>n6 - (intOf s).toNat)
 case atStart=>exact⟨0,Nat.zero_le _,rfl,rfl,fun i a h=>absurd h (Nat.not_lt_zero _)⟩
 case round=>
  obtain⟨k,hk,rfl,rfl,HG⟩:=hrel
  by_cases hlt:k < n6
  · have hkn: (k:Int) < (n6:Int):=by omega
    obtain⟨z0,z1,z2,z3,z4,z5,z6,z7,z8,z9⟩:=HN.out
    obtain⟨a,ha⟩:=HM.out.guards.get (i:=k) (by rw[z6];exact hlt)
    obtain⟨b,o,cp,cs,eq,hb,_,⟨v,hc,hr⟩,hcell⟩:=HM.out.guards.at ha
    rw[z6] at eq
    cases eq
    subst hc
    obtain⟨av,kv,ev⟩:=hr.len
    subst ev
    have g:=hcell 2 _ rfl
    have hmx:=hr.max
    obtain⟨l,hl⟩:∃ l,a.ifs.length=l:=⟨_,rfl⟩
    rw[hl] at g hmx
    have HX:Hid (¬80 < l→∀ i a',i < k+1→M.guards[i]?=some a'→a'.ifs.length≤80):=fun h i a' hi ha'=>by
     rcases Nat.lt_or_ge i k with q|q
     · exact HG.out i a' q ha'
     · obtain rfl:i=k:=by omega
       rw[ha] at ha';cases ha';omega
    clear z0 z1 z2 z3 z4 z5 z6 z7 z8 z9 ha hcell hr hl
    by_cases h:80 < l
    · have hi: (80:Int) < (l:Int):=by omega
      clear h
      go_wp2_with fail
      go_ret
      exact⟨true,rfl,Lib.hid (fun h=>by cases h),HB1.out⟩
    · have hi:¬(80:Int) < (l:Int):=by omega
      have HX2:=Lib.hid (HX.out h)
      clear h
      go_wp2_with fail
      go_roundw
      case rel=>first|exact⟨k+1,by omega,by go_num,HX2.out⟩ | exact⟨k+1,by omega,by go_num,trivial,HX2.out⟩ | exact⟨k+1,by omega,by go_num,rfl,HX2.out⟩
      case measure=>simp[intOf];omega
  · obtain rfl:k=n6:=by omega
    go_wp2_with fail
    obtain⟨W1,rfl⟩:∃ W,W=wr:=⟨_,rfl⟩
    go_loopw [4] (fun s wr=>∃ k:Nat,k≤n7∧s=.int .i64 k∧wr=W1∧Hid (∀ i a,i < k→M.miles[i]?=some a→a.ifs.length≤80)) (fun s _=>n7 - (intOf s).toNat)
    case atStart=>exact⟨0,Nat.zero_le _,rfl,rfl,fun i a h=>absurd h (Nat.not_lt_zero _)⟩
    case round=>
     obtain⟨k,hk,rfl,rfl,HGM⟩:=hrel
     by_cases hlt:k < n7
     · have hkn: (k:Int) < (n7:Int):=by omega
       obtain⟨z0,z1,z2,z3,z4,z5,z6,z7,z8,z9⟩:=HN.out
       obtain⟨a,ha⟩:=HM.out.miles.get (i:=k) (by rw[z7];exact hlt)
       obtain⟨b,o,cp,cs,eq,hb,_,⟨v,hc,hr⟩,hcell⟩:=HM.out.miles.at ha
       rw[z7] at eq
       cases eq
       subst hc
       obtain⟨av,kv,ev⟩:=hr.len
       subst ev
       have g:=hcell 3 _ rfl
       have hmx:=hr.max
       obtain⟨l,hl⟩:∃ l,a.ifs.length=l:=⟨_,rfl⟩
       rw[hl] at g hmx
       have HX:Hid (¬80 < l→∀ i a',i < k+1→M.miles[i]?=some a'→a'.ifs.length≤80):=fun h i a' hi ha'=>by
        rcases Nat.lt_or_ge i k with q|q
        · exact HGM.out i a' q ha'
        · obtain rfl:i=k:=by omega
          rw[ha] at ha';cases ha';omega
       clear z0 z1 z2 z3 z4 z5 z6 z7 z8 z9 ha hcell hr hl
       by_cases h:80 < l
       · have hi: (80:Int) < (l:Int):=by omega
         clear h
         go_wp2_with fail
         go_ret
         exact⟨true,rfl,Lib.hid (fun h=>by cases h),HB1.out⟩
       · have hi:¬(80:Int) < (l:Int):=by omega
         have HX2:=Lib.hid (HX.out h)
         clear h
         go_wp2_with fail
         go_roundw
         case rel=>first|exact⟨k+1,by omega,by go_num,HX2.out⟩ | exact⟨k+1,by omega,by go_num,trivial,HX2.out⟩ | exact⟨k+1,by omega,by go_num,rfl,HX2.out⟩
         case measure=>simp[intOf];omega
     · obtain rfl:k=n7:=by omega
       go_wp2_with fail
       obtain⟨W1,rfl⟩:∃ W,W=wr:=⟨_,rfl⟩
       go_loopw [5] (fun s wr=>∃ k:Nat,k≤n5∧s=.int .i64 k∧wr=W1) (fun s _=>n5 - (intOf s).toNat)
       case atStart=>exact⟨0,Nat.zero_le _,rfl,rfl⟩
       case round=>
        obtain⟨k,hk,rfl,rfl⟩:=hrel
        by_cases hlt:k < n5
        · have hkn: (k:Int) < (n5:Int):=by omega
          obtain⟨z0,z1,z2,z3,z4,z5,z6,z7,z8,z9⟩:=HN.out
          obtain⟨a,ha⟩:=HM.out.events.get (i:=k) (by rw[z5];exact hlt)
          obtain⟨b,o,cp,cs,eq,hb,_,⟨v,hc,hr⟩,hcell⟩:=HM.out.events.at ha
          rw[z5] at eq
          cases eq
          subst hc
          obtain⟨av,kv,ev⟩:=hr.len
          subst ev
          have g:=hcell 3 _ rfl
          have hmx:=hr.max
          obtain⟨l,hl⟩:∃ l,a.sets.length=l:=⟨_,rfl⟩
          rw[hl] at g hmx
          clear z0 z1 z2 z3 z4 z5 z6 z7 z8 z9 ha hcell hr hl
          by_cases h:10 < l
          · have hi: (10:Int) < (l:Int):=by omega
            clear h
            go_wp2_with fail
            go_ret
            exact⟨true,rfl,Lib.hid (fun h=>by cases h),HB1.out⟩
          · have hi:¬(10:Int) < (l:Int):=by omega
            clear h
            go_wp2_with fail
            go_roundw
            case rel=>exact⟨k+1,by omega,by go_num,trivial⟩
            case measure=>simp[intOf];omega
        · obtain rfl:k=n5:=by omega
          go_wp2_with fail
          go_ret
          exact⟨false,rfl,Lib.hid (fun _=>⟨HNT.out,fun i a h=>HG.out i a (by have q:=(List.getElem?_eq_some_iff.1 h).1;obtain⟨z0,z1,z2,z3,z4,z5,z6,z7,z8,z9⟩:=HN.out;omega) h,fun i a h=>HGM.out i a (by have q:=(List.getElem?_eq_some_iff.1 h).1;obtain⟨z0,z1,z2,z3,z4,z5,z6,z7,z8,z9⟩:=HN.out;omega) h⟩),HB1.out⟩
end Go.Proofs.YtadjnfpomjopkaaGreat
namespace Go.Proofs.YtadjnfpomjopkaaGreat
open Go.RowKit
set_option maxRecDepth 100000 in
set_option maxHeartbeats 2000000 in
theorem great20_any {w:World} {L:List Mv} {lad:Option Addr} {lcp:Nat} (hl:RowE moveE 3 w (.slice lad L.length lcp) L) :
 Calls Tryz.prog 5 #[.slice lad L.length lcp] w fun e w'=>∃ b,e=.returned (.bool b)∧Below w.heap.size w w':=by
 have hlx:=hl.max
 have HL:=Lib.hid hl
 clear hl
 go_enter Tryz.func5,Tryz.ntmps5
 go_wp2
 go_loopw [3] (fun i wr=>∃ k:Nat,i=.int .i64 (k:Int)∧k≤L.length∧Hid (Below w.heap.size w wr)) (fun i _=>L.length - (intOf i).toNat)
 case atStart=>exact⟨0,rfl,Nat.zero_le _,Below.refl _ _⟩
 case round=>
  obtain⟨k,rfl,hk,HB⟩:=hrel
  rcases Nat.lt_or_ge k L.length with hlt|hge
  · have hkz:=ltI hlt
    obtain⟨x,hx⟩:∃ x,L[k]?=some x:=⟨_,List.getElem?_eq_getElem hlt⟩
    obtain⟨g1,o1,cp1,ai1,ki1,hv1,hl1,hr1,f10,f11,f12⟩:=moveRow (HL.out.below moveE_keep HB.out) hx
    simp only[Value.slice.injEq] at hv1
    have hd1:=hv1.1
    obtain⟨n,hn⟩:∃ n,x.vals.length=n:=⟨_,rfl⟩
    rw[hn] at f12
    clear hx hv1 hl1 hr1 f10 f11 hn
    by_cases h1:40 < k
    · have e1: (40:Int) < (k:Int):=by omega
      clear h1
      go_wp2
      go_ret
      first|exact⟨_,rfl,HB.out⟩ | exact⟨.inr rfl,HB.out⟩ | exact⟨.inl rfl,HB.out⟩
    · have e1:¬(40:Int) < (k:Int):=by omega
      clear h1
      by_cases h2:50 < n
      · have e2: (50:Int) < (n:Int):=by omega
        clear h2
        go_wp2
        go_ret
        first|exact⟨_,rfl,HB.out⟩ | exact⟨.inr rfl,HB.out⟩ | exact⟨.inl rfl,HB.out⟩
      · have e2:¬(50:Int) < (n:Int):=by omega
        clear h2
        go_wp2
        (try rw[←hd1])
        go_roundw
        case rel=>first|exact⟨k+1,by go_num,hlt⟩ | exact⟨k+1,by go_num,hlt,HB.out⟩
        case measure=>simp[intOf];omega
  · have hge':=nltI (Nat.not_lt.2 hge)
    go_wp2
    go_ret
    first|exact⟨_,rfl,HB.out⟩ | exact⟨.inr rfl,HB.out⟩ | exact⟨.inl rfl,HB.out⟩
end Go.Proofs.YtadjnfpomjopkaaGreat
namespace Go.Proofs.YtadjnfpomjopkaaGreat
open Go.RowKit Go.ChangeShapes Go.WideShapes Go.Deep
def NmIn (w:World) (v:Value) (T:List ByteArray):Prop:=
 ∃ ad cap,v=.slice ad T.length cap∧(T= []∨∃ g off,ad=some ⟨g,off,none⟩∧g < w.heap.size∧∀ (k:Nat) (x:ByteArray),T[k]?=some x→w.cell? ⟨g,off+k,none⟩ = some (.string x))
theorem NmIn.keep {w w':World} {v:Value} {T:List ByteArray} (h:NmIn w v T) (hb:Below w.heap.size w w'):NmIn w' v T:=by
 obtain⟨ad,cap,hv,h⟩:=h
 refine⟨ad,cap,hv,?_⟩
 rcases h with h| ⟨g,off,ha,hg,hc⟩
 · exact .inl h
 · exact .inr ⟨g,off,ha,Nat.lt_of_lt_of_le hg hb.size,fun k x hx=>(hb.cell (p:=⟨g,off+k,none⟩) hg).trans (hc k x hx)⟩
theorem NmIn.len {w:World} {v:Value} {T:List ByteArray} (h:NmIn w v T):∃ ad cap,v=.slice ad T.length cap:=by
 obtain⟨ad,cap,hv,_⟩:=h;exact⟨ad,cap,hv⟩
theorem NmIn.at {w:World} {v:Value} {T:List ByteArray} (h:NmIn w v T) {k:Nat} {x:ByteArray} (hx:T[k]?=some x) :
 ∃ g off cap,v=.slice (some ⟨g,off,none⟩) T.length cap∧g < w.heap.size∧w.cell? ⟨g,off+k,none⟩ = some (.string x):=by
 obtain⟨ad,cap,rfl,h⟩:=h
 rcases h with rfl| ⟨g,off,rfl,hg,hc⟩
 · simp at hx
 · exact⟨g,off,cap,rfl,hg,hc k x hx⟩
structure Sm where
 kind:Int
 name:ByteArray
 line:Int
 col:Int
 init:Int
 nv:Value
 role:ByteArray
 stage:ByteArray
 event:ByteArray
 times:Int
 iv:Value
 final:Bool
 names:List ByteArray
 ifs:List It
def smCells (x:Sm):List Value:=[.int .i64 x.kind,.string x.name,.int .i64 x.line,.int .i64 x.col,.int .i64 x.init,x.nv,.string x.role,.string x.stage,.string x.event,.int .i64 x.times,x.iv,.bool x.final]
def smFlat (l:List Sm):List Value:=l.flatMap smCells
theorem smFlat_len (l:List Sm): (smFlat l).length=l.length * 12:=by
 induction l with
 | nil=>rfl
 | cons x r ih=>simp only[smFlat,List.flatMap_cons,List.length_append,List.length_cons] at *;rw[ih];simp[smCells];omega
theorem smFlat_app (a b:List Sm):smFlat (a ++b)=smFlat a ++smFlat b:=by simp[smFlat]
theorem smFlat_cons (x:Sm) (l:List Sm):smFlat (x :: l)=smCells x ++smFlat l:=by simp[smFlat]
theorem smFlat_get (l:List Sm) (i j:Nat) (x:Sm) (hx:l[i]?=some x) (hj:j < 12): (smFlat l)[i * 12+j]?= (smCells x)[j]?:=by
 induction l generalizing i with
 | nil=>simp at hx
 | cons y r ih=>
   rw[smFlat_cons]
   cases i with
   | zero=>
     simp only[List.getElem?_cons_zero,Option.some.injEq] at hx
     subst hx
     rw[Nat.zero_mul,Nat.zero_add,List.getElem?_append_left (by simp[smCells];omega)]
   | succ i=>
     rw[List.getElem?_append_right (by simp[smCells];omega)]
     rw[show(i+1) * 12+j - (smCells y).length=i * 12+j by simp[smCells];omega]
     exact ih i (by simpa using hx)
def SmOK (w:World) (x:Sm):Prop:=NmIn w x.nv x.names∧ItIn w x.iv x.ifs
theorem SmOK.keep {w w':World} {x:Sm} (h:SmOK w x) (hb:Below w.heap.size w w'):SmOK w' x:=⟨h.1.keep hb,h.2.keep hb⟩
def SmIn (w:World) (v:Value) (T:List Sm):Prop:=
 ∃ ad cap,v=.slice ad T.length cap∧((ad=none→cap=0)∧T.length≤cap∧cap≤maxLen)∧(T= []∨∃ g off,ad=some ⟨g,off,none⟩∧g < w.heap.size∧∀ (k:Nat) (x:Sm),T[k]?=some x→∀ j,j < 12→w.cell? ⟨g,off+k * 12+j,none⟩ = (smCells x)[j]?)
theorem SmIn.keep {w w':World} {v:Value} {T:List Sm} (h:SmIn w v T) (hb:Below w.heap.size w w'):SmIn w' v T:=by
 obtain⟨ad,cap,hv,hz,h⟩:=h
 refine⟨ad,cap,hv,hz,?_⟩
 rcases h with h| ⟨g,off,ha,hg,hc⟩
 · exact .inl h
 · exact .inr ⟨g,off,ha,Nat.lt_of_lt_of_le hg hb.size,fun k x hx j hj=>(hb.cell (p:=⟨g,off+k * 12+j,none⟩) hg).trans (hc k x hx j hj)⟩
theorem SmIn.len {w:World} {v:Value} {T:List Sm} (h:SmIn w v T):∃ ad cap,v=.slice ad T.length cap:=by
 obtain⟨ad,cap,hv,_,_⟩:=h;exact⟨ad,cap,hv⟩
theorem SmIn.at {w:World} {v:Value} {T:List Sm} (h:SmIn w v T) {k:Nat} {x:Sm} (hx:T[k]?=some x) :
 ∃ g off cap,v=.slice (some ⟨g,off,none⟩) T.length cap∧g < w.heap.size∧w.cell? ⟨g,off+k * 12,none⟩ = some (.int .i64 x.kind)∧w.cell? ⟨g,off+k * 12+1,none⟩ = some (.string x.name)∧w.cell? ⟨g,off+k * 12+2,none⟩ = some (.int .i64 x.line)∧
  w.cell? ⟨g,off+k * 12+3,none⟩ = some (.int .i64 x.col)∧w.cell? ⟨g,off+k * 12+4,none⟩ = some (.int .i64 x.init)∧w.cell? ⟨g,off+k * 12+5,none⟩ = some x.nv∧w.cell? ⟨g,off+k * 12+6,none⟩ = some (.string x.role)∧
  w.cell? ⟨g,off+k * 12+7,none⟩ = some (.string x.stage)∧w.cell? ⟨g,off+k * 12+8,none⟩ = some (.string x.event)∧w.cell? ⟨g,off+k * 12+9,none⟩ = some (.int .i64 x.times)∧w.cell? ⟨g,off+k * 12+10,none⟩ = some x.iv∧w.cell? ⟨g,off+k * 12+11,none⟩ = some (.bool x.final):=by
 obtain⟨ad,cap,rfl,_,h⟩:=h
 rcases h with rfl| ⟨g,off,rfl,hg,hc⟩
 · simp at hx
 · have c:=hc k x hx
   exact⟨g,off,cap,rfl,hg,c 0 (by omega),c 1 (by omega),c 2 (by omega),c 3 (by omega),c 4 (by omega),c 5 (by omega),c 6 (by omega),c 7 (by omega),c 8 (by omega),c 9 (by omega),c 10 (by omega),c 11 (by omega)⟩
theorem SmIn.of_row {w:World} {base:Nat} {v:Value} {T:List Sm} (h:w.ownsRow base 63 12 v T.length (smFlat T)):SmIn w v T:=by
 rcases h.2 with⟨rfl,h0⟩ | ⟨g,cap,cur,rfl,hb,hg,hn,hc,_⟩
 · exact⟨none,0,by rw[h0],⟨fun _=>rfl,by omega,by unfold maxLen;omega⟩,.inl (List.length_eq_zero_iff.1 h0)⟩
 · refine⟨_,cap,rfl,⟨fun e=>(by cases e),hn,hc⟩,.inr ⟨g,0,rfl,(Array.getElem?_eq_some_iff.1 hg).1,fun k x hx j hj=>?_⟩⟩
   have hk:=(List.getElem?_eq_some_iff.1 hx).1
   rw[Nat.zero_add,World.ownsRow.cellAt h (k * 12+j) (by omega),smFlat_get T k j x hx hj]
section
variable {H:Type} {enc:TypeId × Value→H} {w:World} {base:Nat} {sp:Nat→Bool} {hd:Bool}
theorem cels_stm:Tryz.prog.cellsOf 63=12:=by kernel_rfl
theorem cels_bool:Tryz.prog.cellsOf 4=1:=by kernel_rfl
theorem cels_nm:Tryz.prog.cellsOf 22=1:=by kernel_rfl
theorem cels_its:Tryz.prog.cellsOf 61=1:=by kernel_rfl
set_option maxRecDepth 100000 in
theorem open_nms {fuel:Nat} {ad:Option Addr} {n cap:Nat} {x:DataW H × List MemPlace} (h:DataW.trod enc Tryz.prog w base sp hd fuel 22 [.slice ad n cap]=some x) :
 ∃ T:List ByteArray,T.length=n∧NmIn w (.slice ad n cap) T:=by
 rcases open_slice Tryz.underlying22 h with⟨he,_⟩ | ⟨a,len,c,m,k,D,Pl,he,hb,hl,hm,hmm,hx,hall⟩
 · simp only[List.cons.injEq,Value.slice.injEq,and_true] at he
   obtain⟨rfl,rfl,rfl⟩:=he
   exact⟨[],rfl,none,0,rfl,.inl rfl⟩
 · simp only[List.cons.injEq,Value.slice.injEq,and_true] at he
   obtain⟨rfl,rfl,rfl⟩:=he
   have hnm:n≤m:=by rw[hmm];split <;> omega
   have each:∀ i,i < n→∃ t:ByteArray,w.cell? (a.add i)=some (.string t):=by
    intro i hi
    obtain⟨cs,h1,h2⟩:=hall i (by omega)
    rw[celi_str] at h1
    obtain⟨t,rfl,_,_⟩:=DataW.trod_string Tryz.underlying9 h2
    obtain⟨_,hlen,hcell⟩:=World.cells?_some h1
    have:=hcell 0 (by decide)
    rw[Nat.mul_one] at this
    refine⟨t,?_⟩
    rw[show(a.add i).add 0=a.add i by rw[add_add,Nat.add_zero]] at this
    exact this
   obtain⟨t,ht⟩:=choose_lt each
   by_cases h0:n=0
   · subst h0
     exact⟨[],rfl,_,cap,rfl,.inl rfl⟩
   have hz:=ht 0 (by omega)
   obtain⟨b,off,spot⟩:=a
   have hspot:spot=none:=by simpa [Addr.add] using World.cell?_spot hz
   subst hspot
   have hadd:∀ i,(⟨b,off,none⟩:Addr).add i= ⟨b,off+i,none⟩:=fun i=>by unfold Addr.add;split <;> simp_all
   refine⟨(List.range n).map t,by simp,some ⟨b,off,none⟩,cap,by simp,.inr ⟨b,off,rfl,World.block_lt_of_cell? w _ (by rw[hadd] at hz;exact hz),fun i y hy=>?_⟩⟩
   have hi:i < n:=by have:=(List.getElem?_eq_some_iff.1 hy).1;simpa using this
   have hy':y=t i:=by simpa [hi] using hy.symm
   subst hy'
   have e:=ht i hi
   rw[hadd] at e
   exact e
def SmLen (x:Sm):Prop:=x.names.length≤9223372036854775807∧x.ifs.length≤9223372036854775807
theorem slice_form {t e:TypeId} {fuel:Nat} {v:Value} {x:DataW H × List MemPlace} (ht:Tryz.prog.underlying t=some (.slice e)) (h:DataW.trod enc Tryz.prog w base sp hd fuel t [v]=some x):∃ ad n cap,v=.slice ad n cap∧n≤9223372036854775807:=by
 rcases open_slice ht h with⟨he,_⟩ | ⟨a,len,c,m,k,D,Pl,he,hb,hl,hm,_⟩
 · simp only[List.cons.injEq,and_true] at he
   exact⟨none,0,0,he,by omega⟩
 · simp only[List.cons.injEq,and_true] at he
   exact⟨some a,len,c,he,by unfold maxLen at hm;omega⟩
set_option maxRecDepth 100000 in
set_option maxHeartbeats 1000000 in
theorem open_stm {fuel:Nat} {cs:List Value} {x:DataW H × List MemPlace} (h:DataW.trod enc Tryz.prog w base sp hd fuel 63 cs=some x):∃ t:Sm,cs=smCells t∧SmOK w t∧SmLen t∧ -9223372036854775808≤t.kind∧t.kind≤9223372036854775807:=by
 obtain⟨xs,n,_,_,hlen,hxl,hf⟩:=DataW.trod_struct Tryz.underlying63 h
 rw[cels_stm] at hlen
 match cs,hlen with
 | [v0,v1,v2,v3,v4,v5,v6,v7,v8,v9,v10,v11],_=>
   have hx0:=List.getElem?_eq_getElem (show 0 < xs.length by rw[hxl];decide)
   have hx1:=List.getElem?_eq_getElem (show 1 < xs.length by rw[hxl];decide)
   have hx2:=List.getElem?_eq_getElem (show 2 < xs.length by rw[hxl];decide)
   have hx3:=List.getElem?_eq_getElem (show 3 < xs.length by rw[hxl];decide)
   have hx4:=List.getElem?_eq_getElem (show 4 < xs.length by rw[hxl];decide)
   have hx5:=List.getElem?_eq_getElem (show 5 < xs.length by rw[hxl];decide)
   have hx6:=List.getElem?_eq_getElem (show 6 < xs.length by rw[hxl];decide)
   have hx7:=List.getElem?_eq_getElem (show 7 < xs.length by rw[hxl];decide)
   have hx8:=List.getElem?_eq_getElem (show 8 < xs.length by rw[hxl];decide)
   have hx9:=List.getElem?_eq_getElem (show 9 < xs.length by rw[hxl];decide)
   have hx10:=List.getElem?_eq_getElem (show 10 < xs.length by rw[hxl];decide)
   have g0:DataW.trod enc Tryz.prog w base sp hd n 3 (([v0,v1,v2,v3,v4,v5,v6,v7,v8,v9,v10,v11].drop 0).take (Tryz.prog.cellsOf 3))=xs[0]?:=hf 0 _ rfl
   have g1:DataW.trod enc Tryz.prog w base sp hd n 9 (([v0,v1,v2,v3,v4,v5,v6,v7,v8,v9,v10,v11].drop 1).take (Tryz.prog.cellsOf 9))=xs[1]?:=hf 1 _ rfl
   have g2:DataW.trod enc Tryz.prog w base sp hd n 60 (([v0,v1,v2,v3,v4,v5,v6,v7,v8,v9,v10,v11].drop 2).take (Tryz.prog.cellsOf 60))=xs[2]?:=hf 2 _ rfl
   have g3:DataW.trod enc Tryz.prog w base sp hd n 2 (([v0,v1,v2,v3,v4,v5,v6,v7,v8,v9,v10,v11].drop 4).take (Tryz.prog.cellsOf 2))=xs[3]?:=hf 3 _ rfl
   have g4:DataW.trod enc Tryz.prog w base sp hd n 22 (([v0,v1,v2,v3,v4,v5,v6,v7,v8,v9,v10,v11].drop 5).take (Tryz.prog.cellsOf 22))=xs[4]?:=hf 4 _ rfl
   have g5:DataW.trod enc Tryz.prog w base sp hd n 9 (([v0,v1,v2,v3,v4,v5,v6,v7,v8,v9,v10,v11].drop 6).take (Tryz.prog.cellsOf 9))=xs[5]?:=hf 5 _ rfl
   have g6:DataW.trod enc Tryz.prog w base sp hd n 9 (([v0,v1,v2,v3,v4,v5,v6,v7,v8,v9,v10,v11].drop 7).take (Tryz.prog.cellsOf 9))=xs[6]?:=hf 6 _ rfl
   have g7:DataW.trod enc Tryz.prog w base sp hd n 9 (([v0,v1,v2,v3,v4,v5,v6,v7,v8,v9,v10,v11].drop 8).take (Tryz.prog.cellsOf 9))=xs[7]?:=hf 7 _ rfl
   have g8:DataW.trod enc Tryz.prog w base sp hd n 3 (([v0,v1,v2,v3,v4,v5,v6,v7,v8,v9,v10,v11].drop 9).take (Tryz.prog.cellsOf 3))=xs[8]?:=hf 8 _ rfl
   have g9:DataW.trod enc Tryz.prog w base sp hd n 61 (([v0,v1,v2,v3,v4,v5,v6,v7,v8,v9,v10,v11].drop 10).take (Tryz.prog.cellsOf 61))=xs[9]?:=hf 9 _ rfl
   have g10:DataW.trod enc Tryz.prog w base sp hd n 4 (([v0,v1,v2,v3,v4,v5,v6,v7,v8,v9,v10,v11].drop 11).take (Tryz.prog.cellsOf 4))=xs[10]?:=hf 10 _ rfl
   rw[hx0] at g0;rw[hx1] at g1;rw[hx2] at g2;rw[hx3] at g3;rw[hx4] at g4;rw[hx5] at g5;rw[hx6] at g6;rw[hx7] at g7;rw[hx8] at g8;rw[hx9] at g9;rw[hx10] at g10
   simp only[celi_int,celi_str,celi_pos,celi_i64,cels_bool,cels_nm,cels_its,List.drop,List.take] at g0 g1 g2 g3 g4 g5 g6 g7 g8 g9 g10
   obtain⟨a0,e0,_,wf0⟩:=DataW.trod_int Tryz.underlying3 g0
   obtain⟨s1,e1,_,_⟩:=DataW.trod_string Tryz.underlying9 g1
   obtain⟨l,c,e2⟩:=opi_pos g2
   obtain⟨a4,e4,_,_⟩:=DataW.trod_int Tryz.underlying2 g3
   obtain⟨ad5,n5,cap5,e5,b5⟩:=slice_form Tryz.underlying22 g4
   obtain⟨s6,e6,_,_⟩:=DataW.trod_string Tryz.underlying9 g5
   obtain⟨s7,e7,_,_⟩:=DataW.trod_string Tryz.underlying9 g6
   obtain⟨s8,e8,_,_⟩:=DataW.trod_string Tryz.underlying9 g7
   obtain⟨a9,e9,_,_⟩:=DataW.trod_int Tryz.underlying3 g8
   obtain⟨ad10,n10,cap10,e10,b10⟩:=slice_form Tryz.underlying61 g9
   obtain⟨bo,e11,_⟩:=DataW.trod_bool Tryz.underlying4 g10
   subst e5 e10
   obtain⟨ns,hnl,hns⟩:=open_nms g4
   obtain⟨its,hil,his,_⟩:=open_its g9
   simp only[List.cons.injEq,and_true] at e0 e1 e2 e4 e6 e7 e8 e9 e11
   exact⟨⟨a0,s1,l,c,a4,.slice ad5 n5 cap5,s6,s7,s8,a9,.slice ad10 n10 cap10,bo,ns,its⟩,by rw[e0,e1,e2.1,e2.2,e4,e6,e7,e8,e9,e11];rfl,⟨hns,his⟩,⟨by dsimp only;omega,by dsimp only;omega⟩,bounds_i64 wf0⟩
instance:Inhabited Sm:=⟨⟨0,⟨#[]⟩,0,0,0,undef,⟨#[]⟩,⟨#[]⟩,⟨#[]⟩,0,undef,false,[],[]⟩⟩
set_option maxRecDepth 100000 in
theorem open_stms {fuel:Nat} {ad:Option Addr} {n cap:Nat} {x:DataW H × List MemPlace} (h:DataW.trod enc Tryz.prog w base sp hd fuel 64 [.slice ad n cap]=some x) :
 ∃ T:List Sm,T.length=n∧SmIn w (.slice ad n cap) T∧∀ y ∈ T,SmOK w y∧SmLen y∧ -9223372036854775808≤y.kind∧y.kind≤9223372036854775807:=by
 rcases open_slice Tryz.underlying64 h with⟨he,_⟩ | ⟨a,len,c,m,k,D,Pl,he,hb,hl,hm,hmm,hx,hall⟩
 · simp only[List.cons.injEq,Value.slice.injEq,and_true] at he
   obtain⟨rfl,rfl,rfl⟩:=he
   exact⟨[],rfl,⟨none,0,rfl,⟨fun _=>rfl,Nat.le_refl _,by unfold maxLen;omega⟩,.inl rfl⟩,fun y hy=>by cases hy⟩
 · simp only[List.cons.injEq,Value.slice.injEq,and_true] at he
   obtain⟨rfl,rfl,rfl⟩:=he
   have hnm:n≤m:=by rw[hmm];split <;> omega
   have each:∀ i,i < n→∃ t:Sm,(SmOK w t∧SmLen t∧ -9223372036854775808≤t.kind∧t.kind≤9223372036854775807)∧∀ j,j < 12→w.cell? (a.add (i * 12+j))= (smCells t)[j]?:=by
    intro i hi
    obtain⟨cs,h1,h2⟩:=hall i (by omega)
    rw[cels_stm] at h1
    obtain⟨t,rfl,hok⟩:=open_stm h2
    obtain⟨_,hlen,hcell⟩:=World.cells?_some h1
    refine⟨t,hok,fun j hj=>?_⟩
    have:=hcell j hj
    rwa [add_add] at this
   obtain⟨t,ht⟩:=choose_lt each
   by_cases h0:n=0
   · subst h0
     exact⟨[],rfl,⟨_,cap,rfl,⟨fun e=>(by cases e),hl,hm⟩,.inl rfl⟩,fun y hy=>by cases hy⟩
   have hz:=(ht 0 (by omega)).2 0 (by omega)
   obtain⟨b,off,spot⟩:=a
   have hspot:spot=none:=by simpa [Addr.add] using World.cell?_spot hz
   subst hspot
   have hadd:∀ i,(⟨b,off,none⟩:Addr).add i= ⟨b,off+i,none⟩:=fun i=>by unfold Addr.add;split <;> simp_all
   refine⟨(List.range n).map t,by simp,⟨some ⟨b,off,none⟩,cap,by simp,⟨fun e=>(by cases e),by simpa using hl,hm⟩,.inr ⟨b,off,rfl,World.block_lt_of_cell? w _ (by rw[hadd] at hz;exact hz),fun i y hy j hj=>?_⟩⟩,?_⟩
   · have hi:i < n:=by have:=(List.getElem?_eq_some_iff.1 hy).1;simpa using this
     have hy':y=t i:=by simpa [hi] using hy.symm
     subst hy'
     have e:=(ht i hi).2 j hj
     rw[hadd,←Nat.add_assoc] at e
     exact e
   · intro y hy
     obtain⟨i,hi,rfl⟩:=List.mem_map.1 hy
     exact(ht i (by simpa using hi)).1
end
end Go.Proofs.YtadjnfpomjopkaaGreat
