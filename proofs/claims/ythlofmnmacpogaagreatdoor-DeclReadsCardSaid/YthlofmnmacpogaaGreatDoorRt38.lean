/- A part of a proof of DeclReadsProof. -/
import Derived.Test.YthlofmnmacpogaaGreatDoorRt36
import Derived.Test.YthlofmnmacpogaaGreatDoorRt17
set_option maxRecDepth 100000
set_option maxHeartbeats 40000000
namespace Go.Proofs.YthlofmnmacpogaaGreatDoor
open Go.RowKit
theorem rdnames_comma {w:World} {B:Nat} {lv:Value} {T:List Tk} (h:TkIn w B lv T) (hB:B≤w.heap.size) (r:RS) {nv iv:Value} (hnm:NmRow w nv r.x.names) (hit:ItRow w iv r.x.ifs) (he:r.er=0) (hi:InD T r) (hx0:r.x.names= []) :
 Calls Tryz.prog 47 #[lv,pvV r nv iv,.bool true] w (RdP w (setsL T (T.length+1) (moreD T r))):=by
 have hTl:T.length≤1000000:=by obtain⟨_,_,_,hl,_⟩:=h;exact hl
 have HNM:=Lh hnm
 have HIT:=Lh hit
 obtain⟨ad1,n1,cap1,rfl⟩:=hnm.sl
 obtain⟨ad2,n2,cap2,rfl⟩:=hit.sl
 have PE:=pent w r (.slice ad1 n1 cap1) (.slice ad2 n2 cap2)
 obtain⟨W0,hW0⟩:∃ W,((w.alloc (.cells #[.int .i64 r.x.kind,.string r.x.name,.int .i64 r.x.line,.int .i64 r.x.col,.int .i64 r.x.init,.slice ad1 n1 cap1,.string r.x.role,.string r.x.stage,.string r.x.event,.int .i64 r.x.times,.slice ad2 n2 cap2,.bool r.x.final,.int .i64 r.i,.int .i64 r.er,.int .i64 r.line,.int .i64 r.col] 62)).alloc oB4)=W:=⟨_,rfl⟩
 rw[hW0] at PE
 have P0:=Lh PE.p
 have Q0:=Lh PE.q
 have HB0:=Lh PE.lo
 have HTK:Hid (∀ W,Below w.heap.size w W→TkIn W B lv T):=fun W hW=>h.below (hW.mono hB)
 have HBB:=Lh hB
 obtain⟨F,hF⟩:∃ F,setsL T (T.length+1) (moreD T r)=F:=⟨_,rfl⟩
 obtain⟨fl,hfl⟩:∃ fl,r.x.ifs=fl:=⟨_,rfl⟩
 have HFL:=Lh hfl
 have HST:Hid (setsL T (T.length+1) (moreD T (setNames [] r))=F∧r.er=0∧r.x.names= []∧r.x.ifs=fl∧InD T r∧(T.length:Int) < r.i+ ((T.length+1:Nat):Int)∧(([]:List ByteArray).length:Int)≤r.i):=by
  refine⟨?_,he,hx0,hfl,hi,?_,?_⟩
  · rw[←hF,show setNames [] r=r by unfold setNames;rw[←hx0]]
  · have:=hi.1;omega
  · exact hi.1
 rw[hF]
 rw[pv_is r]
 obtain⟨i0,hi0,hz0,hz1,hz2⟩:=info_parts info_strD
 have HIP:=Lh (And.intro hi0 (And.intro hz0 (And.intro hz1 hz2)))
 have HX0:=Lh hx0
 clear h hB hnm hit he hi hx0 PE hF hfl hi0 hz0 hz1 hz2
 go_enter Tryz.func47,Tryz.ntmps47
 go_wp2_with fail
 go_loopw [7] (fun v7 wr=>∃ (k:Nat) (rr:RS) (all:List ByteArray),Hid (PB wr w.heap.size rr (.slice ad1 n1 cap1) (.slice ad2 n2 cap2)∧PB wr (w.heap.size+1) zeroR (.slice none 0 0) (.slice none 0 0)∧wr.ownsRow w.heap.size 9 1 v7 all.length (strV all)∧Below w.heap.size w wr∧(setsL T k (moreD T (setNames all rr))=F∧rr.er=0∧rr.x.names= []∧rr.x.ifs=fl∧InD T rr∧(T.length:Int) < rr.i+k∧(all.length:Int)≤rr.i))) (fun _ wr=>T.length+1 - posP wr w.heap.size)
 case atStart=>exact⟨T.length+1,r,[],P0.out,Q0.out,World.ownsRow_nil _ _ _ _,HB0.out,HST.out⟩
 case round=>
  obtain⟨k,rr,all,HALL⟩:=hrel
  clear P0 Q0 HB0 HST
  obtain⟨p0,q0,own0,hb0,hst,her,hxn,hxi,hin,hfu,hal0⟩:=HALL.out
  clear HALL
  obtain⟨ad7,cap7,rfl⟩:=owns_len own0
  have HPOS:=Lh p0.pos
  have HST:=Lh (And.intro hst (And.intro her (And.intro hxn (And.intro hxi (And.intro hin (And.intro hfu hal0))))))
  have HO0:=Lh own0
  have HB0:=Lh hb0
  have hNL:all.length≤1000000:=by have:=hin.2;omega
  have HN:=Lh (rdname_any (HTK.out _ hb0) (Nat.le_trans HBB.out hb0.size) rr (nv:=(.slice ad1 n1 cap1)) (iv:=(.slice ad2 n2 cap2)) ⟨_,_,_,rfl⟩ ⟨_,_,_,rfl⟩ (fun _=>hin))
  obtain⟨R,hR⟩:∃ R,nameD T rr=R:=⟨_,rfl⟩
  obtain⟨s,hs⟩:∃ s,nameV T rr=s:=⟨_,rfl⟩
  have HMS:Hid (setsL T k (setNames (all ++ [s]) R)=F):=by
   unfold Hid;rw[←hst,more_set,hR,hs]
  have HRX:Hid (R.x.names= []∧R.x.ifs=fl):=by
   have:R.x=rr.x:=by rw[←hR];exact takeD_x T 1 rr
   exact⟨by rw[this];exact hxn,by rw[this];exact hxi⟩
  have HNX:Hid (R.er=0→(tkAt T rr.i).kind=1∧R= { rr with i:=rr.i+1 }):=by
   unfold Hid;intro h;rw[←hR] at h ⊢;exact name_next her h
  have HRI:Hid (R.er=0→InD T R):=by unfold Hid;rw[←hR];exact fun _=>hin.take 1 (by decide)
  rw[hR,hs] at HN
  clear hR hs hst her hxn hxi hin hfu hal0 own0 hb0
  go_wp2_with (first| (refine lP rfl rfl rfl (by assumption) ?_)| (refine sP rfl rfl rfl rfl (by assumption) ?_)|fail)
  refine HN.out.mono ?_
  rintro en w1 ⟨rfl,hb1⟩
  have hal:=(Below.refl w1.heap.size w1).alloc (Nat.le_refl _) oB4
  have p1:=(p0.below hb1).below hal
  have q1:=(q0.below hb1).below hal
  have z1:PB (w1.alloc oB4) w1.heap.size zeroR (.slice none 0 0) (.slice none 0 0):=heap_alloc_new w1 _
  have HO1:=Lh (owns_below (owns_below HO0.out hb1) hal)
  have HB1:=Lh ((HB0.out.trans (hb1.mono HB0.out.size)).trans (hal.mono (Nat.le_trans HB0.out.size hb1.size)))
  obtain⟨W1,hW1⟩:∃ W,(w1.alloc oB4)=W:=⟨_,rfl⟩
  have hlt0:w.heap.size+1 < w1.heap.size:=Nat.lt_of_lt_of_le q0.lt hb1.size
  rw[hW1] at p1 q1 z1 HO1 HB1
  clear hb1 hal p0 q0
  go_wp2_with (first| (refine lP rfl rfl rfl (by assumption) ?_)| (refine sP rfl rfl rfl rfl (by assumption) ?_)|fail)
  unfold Hid
  intro W2 z2 k2
  have p2:=k2.pb p1 (show w.heap.size≠w1.heap.size by omega)
  have q2:=k2.pb q1 (show w.heap.size+1≠w1.heap.size by omega)
  have HB2:=Lh (k2.below HB1.out (show w.heap.size≤w1.heap.size by omega))
  have HO2:=Lh (k2.own z1 (by decide) HO1.out)
  obtain⟨c0,c1,c2,c3,c4,c5,c6,c7,c8,c9,c10,c11,c12,c13,c14,c15⟩:=z2.facts
  have HZ2:=Lh z2
  clear p1 q1 z1 k2 HO1 HO0 HN
  by_cases hre:R.er=0
  · have hrb: (R.er !=0)=false:=by simpa using hre
    have HRE:=Lh hre
    have hlt2:=z2.lt
    have hal:=(Below.refl W2.heap.size W2).alloc (Nat.le_refl _) (.cells #[.string s] 9)
    clear hre
    go_wp2_with (at_builtin;refine app1 W2 #[.string s] rfl _ _ 34 rfl w.heap.size 9 _ 1 16 Tryz.underlying34 info_strD rfl (by decide) (by decide) _ _ _ rfl (by exact HO2.out) rfl (by simp) rfl (by simp[Value.oneCell']) (by omega) HB2.out.size ?_)
    intro v8 w3 own3 grow3 hb3
    obtain⟨ad8,cap8,rfl⟩:=owns_len own3
    have p3:=p2.grown grow3 (own_ne HO2.out p2 (by decide))
    have q3:=q2.grown grow3 (own_ne HO2.out q2 (by decide))
    have z3:=z2.grown grow3 (own_ne HO2.out z2 (by decide))
    have HO3:Hid (w3.ownsRow w.heap.size 9 1 (.slice ad8 (all.length+1) cap8) (all ++ [s]).length (strV (all ++ [s]))):=by
     unfold Hid;rw[strV_snoc,List.length_append,List.length_singleton];exact own3
    have HB3:=Lh (HB2.out.trans hb3)
    clear own3 grow3 hb3 p2 q2 z2 HZ2 HO2 hal
    go_wp2_with (first| (refine lP rfl rfl rfl (by assumption) ?_)| (refine sP rfl rfl rfl rfl (by assumption) ?_)|fail)
    unfold Hid
    intro W4 p4 k4
    have q4:=k4.pb q3 (show w.heap.size+1≠w.heap.size by omega)
    have HB4:=Lh (k4.below HB3.out (Nat.le_refl _))
    obtain⟨f0,f1,f2,f3,f4,f5,f6,f7,f8,f9,f10,f11,f12,f13,f14,f15⟩:=p4.facts
    obtain⟨g0,g1,g2,g3,g4,g5,g6,g7,g8,g9,g10,g11,g12,g13,g14,g15⟩:=p4.free
    have HO4:=Lh (k4.own p3 (by decide) HO3.out)
    clear k4 p3 q3 z3 HO3
    have HPOS4:=Lh p4.pos
    have HP4:=Lh p4
    have HQ4:=Lh q4
    obtain⟨k,rfl⟩:∃ q,k=q+1:=⟨k - 1,by have:=HST.out.2.2.2.2.1.2;have:=HST.out.2.2.2.2.2.1;omega⟩
    have HI:=Lh (rdis_any (HTK.out _ HB4.out) (Nat.le_trans HBB.out HB4.out.size) R.i 4 sComma)
    cases hq:isTk T R.i 4 sComma
    · have HFF:Hid (F=setNames (all ++ [s]) R):=by
       unfold Hid
       rw[←HMS.out,setsL,if_neg (show ¬mayB T 4 sComma (setNames (all ++ [s]) R)=true by
        show ¬mayB T 4 sComma R=true
        unfold mayB;rw[hq,Bool.and_false];decide)]
      rw[hq] at HI
      clear hq
      go_wp2_with (first| (refine lP rfl rfl rfl (by assumption) ?_)| (refine sP rfl rfl rfl rfl (by assumption) ?_)|fail)
      refine HI.out.mono ?_
      rintro en w5 ⟨rfl,hb5⟩
      have p5:=HP4.out.below hb5
      have q5:=HQ4.out.below hb5
      have HO5:=Lh (owns_below HO4.out hb5)
      have HB5:=Lh (HB4.out.trans (hb5.mono HB4.out.size))
      clear hb5 p4 q4 HI
      obtain⟨a0,a1,a2,a3,a4,a5,a6,a7,a8,a9,a10,a11,a12,a13,a14,a15⟩:=p5.facts
      obtain⟨b0,b1,b2,b3,b4,b5,b6,b7,b8,b9,b10,b11,b12,b13,b14,b15⟩:=p5.free
      obtain⟨W7,hW7⟩:∃ W,(w5.setCell ⟨w.heap.size,5,none⟩ (.slice ad8 (all.length+1) cap8))=W:=⟨_,rfl⟩
      have p7:=p5.putNv (all ++ [s]) (.slice ad8 (all.length+1) cap8)
      have q7:=q5.over (show w.heap.size+1≠w.heap.size by omega) (.slice ad8 (all.length+1) cap8) (j:=5)
      have hbW7:=HB5.out.setCell (p:=⟨w.heap.size,5,none⟩) (Nat.le_refl _) (.slice ad8 (all.length+1) cap8)
      rw[hW7] at p7 q7 hbW7
      have HB7:=Lh hbW7
      clear hbW7
      have own7:=(KeptP.cell w5 w.heap.size 5 (.slice ad8 (all.length+1) cap8)).own p5 (by decide) HO5.out
      rw[hW7] at own7
      have HO7:=Lh own7
      clear own7 p5 q5
      go_wp2_with (first| (refine lP rfl rfl rfl (by assumption) ?_)| (refine sP rfl rfl rfl rfl (by assumption) ?_)|fail)
      unfold Hid
      intro W9 qe ke
      have hbe:=ke.below HB7.out (show w.heap.size≤w.heap.size+1 by omega)
      have hnm:NmRow W9 _ _:=ke.nm q7 ⟨_,HO7.out⟩
      have hit:=(HIT.out.keep hbe)
      rw[HFL.out,←HRX.out.2] at hit
      go_wp2
      exact bodyPost_ret (run_resP (by rfl) (by rfl) qe) rfl ⟨_,_,_,rfl,by rw[HFF.out];exact EqR.refl _,hnm,hit,hbe⟩
    · have HMB:Hid (mayB T 4 sComma (setNames (all ++ [s]) R)=true):=by
       unfold Hid;show mayB T 4 sComma R=true
       unfold mayB;rw[hq,decide_eq_true HRE.out];rfl
      have HIN:=Lh (isTk_in hq (by decide))
      rw[hq] at HI
      have hwr:IntKind.i64.wrap (R.i+1)=R.i+1:=IntWalk.i64_in _ ⟨by have:=HIN.out;omega,by have:=HIN.out;omega⟩
      clear hq
      go_wp2_with (first| (refine lP rfl rfl rfl (by assumption) ?_)| (refine sP rfl rfl rfl rfl (by assumption) ?_)|fail)
      refine HI.out.mono ?_
      rintro en w5 ⟨rfl,hb5⟩
      have p5:=HP4.out.below hb5
      have q5:=HQ4.out.below hb5
      have HO5:=Lh (owns_below HO4.out hb5)
      have HB5:=Lh (HB4.out.trans (hb5.mono HB4.out.size))
      clear hb5 p4 q4 HI
      obtain⟨a0,a1,a2,a3,a4,a5,a6,a7,a8,a9,a10,a11,a12,a13,a14,a15⟩:=p5.facts
      obtain⟨b0,b1,b2,b3,b4,b5,b6,b7,b8,b9,b10,b11,b12,b13,b14,b15⟩:=p5.free
      obtain⟨W7,hW7⟩:∃ W,(w5.setCell ⟨w.heap.size,12,none⟩ (.int .i64 (R.i+1)))=W:=⟨_,rfl⟩
      have p7:=p5.putI (R.i+1)
      have q7:=q5.over (show w.heap.size+1≠w.heap.size by omega) (.int .i64 (R.i+1)) (j:=12)
      have hbW7:=HB5.out.setCell (p:=⟨w.heap.size,12,none⟩) (Nat.le_refl _) (.int .i64 (R.i+1))
      rw[hW7] at p7 q7 hbW7
      have HB7:=Lh hbW7
      clear hbW7
      have own7:=(KeptP.cell w5 w.heap.size 12 (.int .i64 (R.i+1))).own p5 (by decide) HO5.out
      rw[hW7] at own7
      have HO7:=Lh own7
      have HP7:=Lh p7;have HQ7:=Lh q7
      have HPOS7:=Lh p7.pos
      clear own7 p5 q5 p7 q7
      go_wp2_with (first| (refine lP rfl rfl rfl (by assumption) ?_)| (refine sP rfl rfl rfl rfl (by assumption) ?_)|fail)
      go_roundw
      case rel=>
       refine⟨k,({ R with i:=R.i+1 }:RS),all ++ [s],HP7.out,HQ7.out,HO7.out,HB7.out,?_,HRE.out,HRX.out.1,HRX.out.2,⟨by have:=HIN.out.1;show 0≤R.i+1;omega,by have:=HIN.out.2;show R.i+1≤_;omega⟩,?_,?_⟩
       · have:=HMS.out
         rw[setsL,if_pos HMB.out] at this
         unfold mayD at this
         rw[if_pos HMB.out] at this
         exact this
       · have:=(HNX.out HRE.out).2
         have h2:R.i=rr.i+1:=by rw[this]
         have:=HST.out.2.2.2.2.2.1
         show(T.length:Int) < R.i+1+k
         omega
       · have:=(HNX.out HRE.out).2
         have h2:R.i=rr.i+1:=by rw[this]
         have:=HST.out.2.2.2.2.2.2
         rw[List.length_append,List.length_singleton]
         show _≤R.i+1
         omega
      case measure=>
       rw[HPOS.out,HPOS7.out]
       have:=(HNX.out HRE.out).2
       have h2:R.i=rr.i+1:=by rw[this]
       have h3:=HST.out.2.2.2.2.1
       have h4:=h3.1
       have h5:=h3.2
       show T.length+1 - (R.i+1).toNat < _
       have h6:=HIN.out
       omega
  · have hrb: (R.er !=0)=true:=by simpa using hre
    have HU:Hid (EqR R F):=by
     unfold Hid
     rw[←HMS.out,setsL_bad T k (show(setNames (all ++ [s]) R).er≠0 from hre)]
     exact⟨rfl,rfl,rfl,fun h=>absurd h hre⟩
    clear hre p2
    go_wp2_with (first| (refine lP rfl rfl rfl (by assumption) ?_)| (refine sP rfl rfl rfl rfl (by assumption) ?_)|fail)
    unfold Hid
    intro W9 qe ke
    have hbe:=ke.below HB2.out (show w.heap.size≤w.heap.size+1 by omega)
    have hnm:=(HNM.out.keep hbe)
    have hit:=(HIT.out.keep hbe)
    rw[HFL.out,←HRX.out.2] at hit
    go_wp2
    exact bodyPost_ret (run_resP (by rfl) (by rfl) qe) rfl ⟨_,_,_,rfl,HU.out,by rw[HRX.out.1,←HX0.out];exact hnm,hit,hbe⟩
end Go.Proofs.YthlofmnmacpogaaGreatDoor
