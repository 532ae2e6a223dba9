/- A part of a proof: 'warder/warderlaw07.DeclOnes' returns true for every input and leaves its arguments as they were; no condition. The row lists package-level variables of Go's library with what they hold at the start; the card ties them to the program's text. -/
import Derived.Test.YthlofmnmacpogaaGreatDoorOn26
import Derived.Test.YthlofmnmacpogaaGreatDoorOn09
import Derived.Test.YthlofmnmacpogaaGreatDoorOn40
import Derived.Test.YthlofmnmacpogaaGreatDoorOn13
namespace Go.Proofs.YthlofmnmacpogaaGreatDoor
open Go.RowKit
set_option maxRecDepth 100000 in
set_option maxHeartbeats 8000000 in
theorem rdnames_comma {w:World} {B:Nat} {lv:Value} {T:List Tk} (h:TkIn w B lv T) (hB:B≤w.heap.size) (r:RS) {nv iv:Value} (hnm:NmRow w nv r.x.names) (hit:ItRow w iv r.x.ifs) (he:r.er=0) (hi:InD T r) (hx0:r.x.names= []) :
 Calls Tryz.prog 47 #[lv,pvV r nv iv,.bool true] w (RdP w (setsL T (T.length+1) (moreD T r))):=by
 have hTl:T.length≤1000000:=by obtain⟨_,_,_,hl,_⟩:=h;exact hl
 have HNM:=Lib.hid hnm
 have HIT:=Lib.hid hit
 obtain⟨ad1,n1,cap1,rfl⟩:=hnm.sl
 obtain⟨ad2,n2,cap2,rfl⟩:=hit.sl
 have PE:=pent w r (.slice ad1 n1 cap1) (.slice ad2 n2 cap2)
 obtain⟨W0,hW0⟩:∃ W,((w.alloc (.cells #[.int .i64 r.x.kind,.string r.x.name,.int .i64 r.x.line,.int .i64 r.x.col,.int .i64 r.x.init,.slice ad1 n1 cap1,.string r.x.role,.string r.x.stage,.string r.x.event,.int .i64 r.x.times,.slice ad2 n2 cap2,.bool r.x.final,.int .i64 r.i,.int .i64 r.er,.int .i64 r.line,.int .i64 r.col] 62)).alloc (.cells #[.int .i64 0,.string ⟨#[]⟩,.int .i64 0,.int .i64 0,.int .i64 0,.slice none 0 0,.string ⟨#[]⟩,.string ⟨#[]⟩,.string ⟨#[]⟩,.int .i64 0,.slice none 0 0,.bool false,.int .i64 0,.int .i64 0,.int .i64 0,.int .i64 0] 62))=W:=⟨_,rfl⟩
 rw[hW0] at PE
 have P0:=Lib.hid PE.p
 have Q0:=Lib.hid PE.q
 have HB0:=Lib.hid PE.lo
 have HTK:Hid (∀ W,Below w.heap.size w W→TkIn W B lv T):=fun W hW=>h.below (hW.mono hB)
 have HBB:=Lib.hid hB
 obtain⟨F,hF⟩:∃ F,setsL T (T.length+1) (moreD T r)=F:=⟨_,rfl⟩
 obtain⟨fl,hfl⟩:∃ fl,r.x.ifs=fl:=⟨_,rfl⟩
 have HFL:=Lib.hid hfl
 have HST:Hid (setsL T (T.length+1) (moreD T (setNames [] r))=F∧r.er=0∧r.x.names= []∧r.x.ifs=fl∧InD T r∧(T.length:Int) < r.i+ ((T.length+1:Nat):Int)∧(([]:List ByteArray).length:Int)≤r.i):=by
  refine⟨?_,he,hx0,hfl,hi,?_,?_⟩
  · rw[←hF,show setNames [] r=r by unfold setNames;rw[←hx0]]
  · have:=hi.1;omega
  · exact hi.1
 rw[hF]
 rw[pv_is r]
 obtain⟨i0,hi0,hz0,hz1,hz2⟩:=info_parts info_strD
 have HIP:=Lib.hid (And.intro hi0 (And.intro hz0 (And.intro hz1 hz2)))
 have HX0:=Lib.hid hx0
 clear h hB hnm hit he hi hx0 PE hF hfl hi0 hz0 hz1 hz2
 go_enter Tryz.func47,Tryz.ntmps47
 go_wp2_with fail
 go_loopw [7] (fun v7 wr=>∃ (k:Nat) (rr:RS) (all:List ByteArray),Hid (PB wr w.heap.size rr (.slice ad1 n1 cap1) (.slice ad2 n2 cap2)∧PB wr (w.heap.size+1) zeroR (.slice none 0 0) (.slice none 0 0)∧wr.ownsRow w.heap.size 9 1 v7 all.length (strV all)∧Below w.heap.size w wr∧(setsL T k (moreD T (setNames all rr))=F∧rr.er=0∧rr.x.names= []∧rr.x.ifs=fl∧InD T rr∧(T.length:Int) < rr.i+k∧(all.length:Int)≤rr.i))) (fun _ wr=>T.length+1 - posP wr w.heap.size)
 case atStart=>exact⟨T.length+1,r,[],P0.out,Q0.out,World.ownsRow_nil _ _ _ _,HB0.out,HST.out⟩
 case round=>
  obtain⟨k,rr,all,HALL⟩:=hrel
  clear P0 Q0 HB0 HST
  obtain⟨p0,q0,own0,hb0,hst,her,hxn,hxi,hin,hfu,hal0⟩:=HALL.out
  clear HALL
  obtain⟨ad7,cap7,rfl⟩:=owns_len own0
  have HPOS:=Lib.hid p0.pos
  have HST:=Lib.hid (And.intro hst (And.intro her (And.intro hxn (And.intro hxi (And.intro hin (And.intro hfu hal0))))))
  have HO0:=Lib.hid own0
  have HB0:=Lib.hid hb0
  have hNL:all.length≤1000000:=by have:=hin.2;omega
  have HN:=Lib.hid (rdname_any (HTK.out _ hb0) (Nat.le_trans HBB.out hb0.size) rr (nv:=(.slice ad1 n1 cap1)) (iv:=(.slice ad2 n2 cap2)) ⟨_,_,_,rfl⟩ ⟨_,_,_,rfl⟩ (fun _=>hin))
  obtain⟨R,hR⟩:∃ R,nameD T rr=R:=⟨_,rfl⟩
  obtain⟨s,hs⟩:∃ s,nameV T rr=s:=⟨_,rfl⟩
  have HMS:Hid (setsL T k (setNames (all ++ [s]) R)=F):=by
   unfold Hid;rw[←hst,more_set,hR,hs]
  have HRX:Hid (R.x.names= []∧R.x.ifs=fl):=by
   have:R.x=rr.x:=by rw[←hR];exact takeD_x T 1 rr
   exact⟨by rw[this];exact hxn,by rw[this];exact hxi⟩
  have HNX:Hid (R.er=0→(tkAt T rr.i).kind=1∧R= { rr with i:=rr.i+1 }):=by
   unfold Hid;intro h;rw[←hR] at h ⊢;exact name_next her h
  have HRI:Hid (R.er=0→InD T R):=by unfold Hid;rw[←hR];exact fun _=>hin.take 1 (by decide)
  rw[hR,hs] at HN
  clear hR hs hst her hxn hxi hin hfu hal0 own0 hb0
  go_wp2_with (first| (refine wpL_loadP rfl rfl rfl (by assumption) ?_)| (refine wpL_storeP rfl rfl rfl rfl (by assumption) ?_)|fail)
  refine HN.out.mono ?_
  rintro en w1 ⟨rfl,hb1⟩
  have hal:=(Below.refl w1.heap.size w1).alloc (Nat.le_refl _) (.cells #[.int .i64 0,.string ⟨#[]⟩,.int .i64 0,.int .i64 0,.int .i64 0,.slice none 0 0,.string ⟨#[]⟩,.string ⟨#[]⟩,.string ⟨#[]⟩,.int .i64 0,.slice none 0 0,.bool false,.int .i64 0,.int .i64 0,.int .i64 0,.int .i64 0] 62)
  have p1:=(p0.below hb1).below hal
  have q1:=(q0.below hb1).below hal
  have z1:PB (w1.alloc (.cells #[.int .i64 0,.string ⟨#[]⟩,.int .i64 0,.int .i64 0,.int .i64 0,.slice none 0 0,.string ⟨#[]⟩,.string ⟨#[]⟩,.string ⟨#[]⟩,.int .i64 0,.slice none 0 0,.bool false,.int .i64 0,.int .i64 0,.int .i64 0,.int .i64 0] 62)) w1.heap.size zeroR (.slice none 0 0) (.slice none 0 0):=heap_alloc_new w1 _
  have HO1:=Lib.hid (owns_below (owns_below HO0.out hb1) hal)
  have HB1:=Lib.hid ((HB0.out.trans (hb1.mono HB0.out.size)).trans (hal.mono (Nat.le_trans HB0.out.size hb1.size)))
  obtain⟨W1,hW1⟩:∃ W,(w1.alloc (.cells #[.int .i64 0,.string ⟨#[]⟩,.int .i64 0,.int .i64 0,.int .i64 0,.slice none 0 0,.string ⟨#[]⟩,.string ⟨#[]⟩,.string ⟨#[]⟩,.int .i64 0,.slice none 0 0,.bool false,.int .i64 0,.int .i64 0,.int .i64 0,.int .i64 0] 62))=W:=⟨_,rfl⟩
  have hlt0:w.heap.size+1 < w1.heap.size:=Nat.lt_of_lt_of_le q0.lt hb1.size
  rw[hW1] at p1 q1 z1 HO1 HB1
  clear hb1 hal p0 q0
  go_wp2_with (first| (refine wpL_loadP rfl rfl rfl (by assumption) ?_)| (refine wpL_storeP rfl rfl rfl rfl (by assumption) ?_)|fail)
  unfold Hid
  intro W2 z2 k2
  have p2:=k2.pb p1 (show w.heap.size≠w1.heap.size by omega)
  have q2:=k2.pb q1 (show w.heap.size+1≠w1.heap.size by omega)
  have HB2:=Lib.hid (k2.below HB1.out (show w.heap.size≤w1.heap.size by omega))
  have HO2:=Lib.hid (k2.own z1 (by decide) HO1.out)
  obtain⟨c0,c1,c2,c3,c4,c5,c6,c7,c8,c9,c10,c11,c12,c13,c14,c15⟩:=z2.facts
  have HZ2:=Lib.hid z2
  clear p1 q1 z1 k2 HO1 HO0 HN
  by_cases hre:R.er=0
  · have hrb: (R.er !=0)=false:=by simpa using hre
    have HRE:=Lib.hid hre
    have hlt2:=z2.lt
    have hal:=(Below.refl W2.heap.size W2).alloc (Nat.le_refl _) (.cells #[.string s] 9)
    clear hre
    go_wp2_with (at_builtin;refine app1 W2 #[.string s] rfl _ _ 34 rfl w.heap.size 9 _ 1 16 Tryz.underlying34 info_strD rfl (by decide) (by decide) _ _ _ rfl (by exact HO2.out) rfl (by simp) rfl (by simp[Value.oneCell']) (by omega) HB2.out.size ?_)
    intro v8 w3 own3 grow3 hb3
    obtain⟨ad8,cap8,rfl⟩:=owns_len own3
    have p3:=p2.grown grow3 (own_ne HO2.out p2 (by decide))
    have q3:=q2.grown grow3 (own_ne HO2.out q2 (by decide))
    have z3:=z2.grown grow3 (own_ne HO2.out z2 (by decide))
    have HO3:Hid (w3.ownsRow w.heap.size 9 1 (.slice ad8 (all.length+1) cap8) (all ++ [s]).length (strV (all ++ [s]))):=by
     unfold Hid;rw[strV_snoc,List.length_append,List.length_singleton];exact own3
    have HB3:=Lib.hid (HB2.out.trans hb3)
    clear own3 grow3 hb3 p2 q2 z2 HZ2 HO2 hal
    go_wp2_with (first| (refine wpL_loadP rfl rfl rfl (by assumption) ?_)| (refine wpL_storeP rfl rfl rfl rfl (by assumption) ?_)|fail)
    unfold Hid
    intro W4 p4 k4
    have q4:=k4.pb q3 (show w.heap.size+1≠w.heap.size by omega)
    have HB4:=Lib.hid (k4.below HB3.out (Nat.le_refl _))
    obtain⟨f0,f1,f2,f3,f4,f5,f6,f7,f8,f9,f10,f11,f12,f13,f14,f15⟩:=p4.facts
    obtain⟨g0,g1,g2,g3,g4,g5,g6,g7,g8,g9,g10,g11,g12,g13,g14,g15⟩:=p4.free
    have HO4:=Lib.hid (k4.own p3 (by decide) HO3.out)
    clear k4 p3 q3 z3 HO3
    have HPOS4:=Lib.hid p4.pos
    have HP4:=Lib.hid p4
    have HQ4:=Lib.hid q4
    obtain⟨k,rfl⟩:∃ q,k=q+1:=⟨k - 1,by have:=HST.out.2.2.2.2.1.2;have:=HST.out.2.2.2.2.2.1;omega⟩
    have HI:=Lib.hid (rdis_any (HTK.out _ HB4.out) (Nat.le_trans HBB.out HB4.out.size) R.i 4 sComma)
    cases hq:isTk T R.i 4 sComma
    · have HFF:Hid (F=setNames (all ++ [s]) R):=by
       unfold Hid
       rw[←HMS.out,setsL,if_neg (show ¬mayB T 4 sComma (setNames (all ++ [s]) R)=true by
        show ¬mayB T 4 sComma R=true
        unfold mayB;rw[hq,Bool.and_false];decide)]
      rw[hq] at HI
      clear hq
      go_wp2_with (first| (refine wpL_loadP rfl rfl rfl (by assumption) ?_)| (refine wpL_storeP rfl rfl rfl rfl (by assumption) ?_)|fail)
      refine HI.out.mono ?_
      rintro en w5 ⟨rfl,hb5⟩
      have p5:=HP4.out.below hb5
      have q5:=HQ4.out.below hb5
      have HO5:=Lib.hid (owns_below HO4.out hb5)
      have HB5:=Lib.hid (HB4.out.trans (hb5.mono HB4.out.size))
      clear hb5 p4 q4 HI
      obtain⟨a0,a1,a2,a3,a4,a5,a6,a7,a8,a9,a10,a11,a12,a13,a14,a15⟩:=p5.facts
      obtain⟨b0,b1,b2,b3,b4,b5,b6,b7,b8,b9,b10,b11,b12,b13,b14,b15⟩:=p5.free
      obtain⟨W7,hW7⟩:∃ W,(w5.setCell ⟨w.heap.size,5,none⟩ (.slice ad8 (all.length+1) cap8))=W:=⟨_,rfl⟩
      have p7:=p5.putNv (all ++ [s]) (.slice ad8 (all.length+1) cap8)
      have q7:=q5.over (show w.heap.size+1≠w.heap.size by omega) (.slice ad8 (all.length+1) cap8) (j:=5)
      have hbW7:=HB5.out.setCell (p:=⟨w.heap.size,5,none⟩) (Nat.le_refl _) (.slice ad8 (all.length+1) cap8)
      rw[hW7] at p7 q7 hbW7
      have HB7:=Lib.hid hbW7
      clear hbW7
      have own7:=(KeptP.cell w5 w.heap.size 5 (.slice ad8 (all.length+1) cap8)).own p5 (by decide) HO5.out
      rw[hW7] at own7
      have HO7:=Lib.hid own7
      clear own7 p5 q5
      go_wp2_with (first| (refine wpL_loadP rfl rfl rfl (by assumption) ?_)| (refine wpL_storeP rfl rfl rfl rfl (by assumption) ?_)|fail)
      unfold Hid
      intro W9 qe ke
      have hbe:=ke.below HB7.out (show w.heap.size≤w.heap.size+1 by omega)
      have hnm:NmRow W9 _ _:=ke.nm q7 ⟨_,HO7.out⟩
      have hit:=(HIT.out.keep hbe)
      rw[HFL.out,←HRX.out.2] at hit
      go_wp2
      exact bodyPost_ret (run_resP (by rfl) (by rfl) qe) rfl ⟨_,_,_,rfl,by rw[HFF.out];exact EqR.refl _,hnm,hit,hbe⟩
    · have HMB:Hid (mayB T 4 sComma (setNames (all ++ [s]) R)=true):=by
       unfold Hid;show mayB T 4 sComma R=true
       unfold mayB;rw[hq,decide_eq_true HRE.out];rfl
      have HIN:=Lib.hid (isTk_in hq (by decide))
      rw[hq] at HI
      have hwr:IntKind.i64.wrap (R.i+1)=R.i+1:=IntWalk.i64_in _ ⟨by have:=HIN.out;omega,by have:=HIN.out;omega⟩
      clear hq
      go_wp2_with (first| (refine wpL_loadP rfl rfl rfl (by assumption) ?_)| (refine wpL_storeP rfl rfl rfl rfl (by assumption) ?_)|fail)
      refine HI.out.mono ?_
      rintro en w5 ⟨rfl,hb5⟩
      have p5:=HP4.out.below hb5
      have q5:=HQ4.out.below hb5
      have HO5:=Lib.hid (owns_below HO4.out hb5)
      have HB5:=Lib.hid (HB4.out.trans (hb5.mono HB4.out.size))
      clear hb5 p4 q4 HI
      obtain⟨a0,a1,a2,a3,a4,a5,a6,a7,a8,a9,a10,a11,a12,a13,a14,a15⟩:=p5.facts
      obtain⟨b0,b1,b2,b3,b4,b5,b6,b7,b8,b9,b10,b11,b12,b13,b14,b15⟩:=p5.free
      obtain⟨W7,hW7⟩:∃ W,(w5.setCell ⟨w.heap.size,12,none⟩ (.int .i64 (R.i+1)))=W:=⟨_,rfl⟩
      have p7:=p5.putI (R.i+1)
      have q7:=q5.over (show w.heap.size+1≠w.heap.size by omega) (.int .i64 (R.i+1)) (j:=12)
      have hbW7:=HB5.out.setCell (p:=⟨w.heap.size,12,none⟩) (Nat.le_refl _) (.int .i64 (R.i+1))
      rw[hW7] at p7 q7 hbW7
      have HB7:=Lib.hid hbW7
      clear hbW7
      have own7:=(KeptP.cell w5 w.heap.size 12 (.int .i64 (R.i+1))).own p5 (by decide) HO5.out
      rw[hW7] at own7
      have HO7:=Lib.hid own7
      have HP7:=Lib.hid p7;have HQ7:=Lib.hid q7
      have HPOS7:=Lib.hid p7.pos
      clear own7 p5 q5 p7 q7
      go_wp2_with (first| (refine wpL_loadP rfl rfl rfl (by assumption) ?_)| (refine wpL_storeP rfl rfl rfl rfl (by assumption) ?_)|fail)
      go_roundw
      case rel=>
       refine⟨k,({ R with i:=R.i+1 }:RS),all ++ [s],HP7.out,HQ7.out,HO7.out,HB7.out,?_,HRE.out,HRX.out.1,HRX.out.2,⟨by have:=HIN.out.1;show 0≤R.i+1;omega,by have:=HIN.out.2;show R.i+1≤_;omega⟩,?_,?_⟩
       · have:=HMS.out
         rw[setsL,if_pos HMB.out] at this
         unfold mayD at this
         rw[if_pos HMB.out] at this
         exact this
       · have:=(HNX.out HRE.out).2
         have h2:R.i=rr.i+1:=by rw[this]
         have:=HST.out.2.2.2.2.2.1
         show(T.length:Int) < R.i+1+k
         omega
       · have:=(HNX.out HRE.out).2
         have h2:R.i=rr.i+1:=by rw[this]
         have:=HST.out.2.2.2.2.2.2
         rw[List.length_append,List.length_singleton]
         show _≤R.i+1
         omega
      case measure=>
       rw[HPOS.out,HPOS7.out]
       have:=(HNX.out HRE.out).2
       have h2:R.i=rr.i+1:=by rw[this]
       have h3:=HST.out.2.2.2.2.1
       have h4:=h3.1
       have h5:=h3.2
       show T.length+1 - (R.i+1).toNat < _
       have h6:=HIN.out
       omega
  · have hrb: (R.er !=0)=true:=by simpa using hre
    have HU:Hid (EqR R F):=by
     unfold Hid
     rw[←HMS.out,setsL_bad T k (show(setNames (all ++ [s]) R).er≠0 from hre)]
     exact⟨rfl,rfl,rfl,fun h=>absurd h hre⟩
    clear hre p2
    go_wp2_with (first| (refine wpL_loadP rfl rfl rfl (by assumption) ?_)| (refine wpL_storeP rfl rfl rfl rfl (by assumption) ?_)|fail)
    unfold Hid
    intro W9 qe ke
    have hbe:=ke.below HB2.out (show w.heap.size≤w.heap.size+1 by omega)
    have hnm:=(HNM.out.keep hbe)
    have hit:=(HIT.out.keep hbe)
    rw[HFL.out,←HRX.out.2] at hit
    go_wp2
    exact bodyPost_ret (run_resP (by rfl) (by rfl) qe) rfl ⟨_,_,_,rfl,HU.out,by rw[HRX.out.1,←HX0.out];exact hnm,hit,hbe⟩
end Go.Proofs.YthlofmnmacpogaaGreatDoor
namespace Go.Proofs.YthlofmnmacpogaaGreatDoor
open Go.RowKit
def evR5 (T:List Tk) (r:RS):RS:=
 let r2:=needD T 2 wBy r
 let r3:=setRole (nameV T r2) (nameD T r2)
 let r4:=needD T 2 wIn r3
 setStage (nameV T r4) (nameD T r4)
def evR6 (T:List Tk) (r5:RS):RS:=if mayB T 2 wSets r5 then setsL T (T.length+1) (moreD T (mayD T 2 wSets r5)) else r5
def evR7 (T:List Tk) (r6:RS):RS:=if mayB T 2 wMax r6 then timesD T (mayD T 2 wMax r6) else r6
theorem needD_x (T:List Tk) (k:Int) (s:ByteArray) (r:RS): (needD T k s r).x=r.x:=by
 unfold needD failD
 split
 · rfl
 · split <;> rfl
theorem Clr.role {T:List Tk} {r:RS} (h:Clr T r) (s:ByteArray):Clr T (setRole s r):=h
theorem Clr.stage {T:List Tk} {r:RS} (h:Clr T r) (s:ByteArray):Clr T (setStage s r):=h
theorem times_kind {T:List Tk} {r:RS} (hk: (tkAt T r.i).kind≠3):EqR (failD T 4 r) (timesD T r):=by
 have h1:timesD T r=setTimes 0 (failD T 4 r):=by
  unfold timesD
  rw[if_neg (fun h=>hk h.1)]
  dsimp only
  rw[show numW T r=0 by unfold numW kindB;rw[decide_eq_false hk,Bool.false_and];rfl]
  rw[show numD T r=failD T 4 r by unfold numD takeD kindB;rw[decide_eq_false hk,Bool.false_and,if_neg (by decide),if_neg hk]]
 rw[h1]
 exact⟨rfl,rfl,rfl,fun h=>absurd (show(failD T 4 r).er=0 from h) failD_no⟩
theorem times_far {T:List Tk} {r:RS} (h0:r.er=0) (hk: (tkAt T r.i).kind=3) (hn: (tkAt T r.i).num < 1∨3 < (tkAt T r.i).num):EqR (failD T 11 r) (timesD T r):=by
 have hne: (failD T 11 r).er≠0:=failD_er T (by decide) r
 have hi: (failD T 11 r).i=r.i:=by unfold failD;split <;> rfl
 have h1:timesD T r=setTimes 0 (failD T 11 r):=by
  unfold timesD
  rw[if_pos ⟨hk,hn⟩]
  dsimp only
  rw[show numW T (failD T 11 r)=0 by unfold numW kindB;rw[decide_eq_false hne,Bool.and_false];rfl]
  rw[show numD T (failD T 11 r)=failD T 11 r by unfold numD takeD kindB;rw[decide_eq_false hne,Bool.and_false,if_neg (by decide),hi,if_pos hk]]
 rw[h1]
 exact⟨rfl,rfl,rfl,fun h=>absurd (show(failD T 11 r).er=0 from h) hne⟩
theorem times_ok {T:List Tk} {r:RS} (h0:r.er=0) (hk: (tkAt T r.i).kind=3) (hn:¬((tkAt T r.i).num < 1∨3 < (tkAt T r.i).num)):timesD T r=setTimes (tkAt T r.i).num { r with i:=r.i+1 }:=by
 unfold timesD
 rw[if_neg (fun h=>hn h.2)]
 dsimp only
 have hkb:kindB T 3 r=true:=by unfold kindB;rw[decide_eq_true hk,decide_eq_true h0];rfl
 rw[show numW T r= (tkAt T r.i).num by unfold numW;rw[if_pos hkb]]
 rw[show numD T r= { r with i:=r.i+1 } by unfold numD takeD;rw[if_pos hkb]]
theorem tk_num (x:Tk): (∀ w:World,(Instr.field 48 (.agg #[.int .i64 x.kind,.string x.text,.int .i64 x.num,.int .i64 x.line,.int .i64 x.col]) 2).run Tryz.prog w=.ok (.int .i64 x.num) w):=fun _=>by kernel_rfl
end Go.Proofs.YthlofmnmacpogaaGreatDoor
namespace Go.Proofs.YthlofmnmacpogaaGreatDoor
open Go.RowKit
def atR (T:List Tk) (r:RS):RS:=setInit (numW T (needD T 4 sEq r)) (numD T (needD T 4 sEq r))
def roR (T:List Tk) (r:RS):RS:=roleL T (T.length+1) (moreD T (needD T 4 sEq r))
def stR (T:List Tk) (r:RS):RS:=if mayB T 2 wIn r then setStage (nameV T (mayD T 2 wIn r)) (nameD T (mayD T 2 wIn r)) else r
def evR (T:List Tk) (r:RS):RS:=evR7 T (evR6 T (evR5 T r))
def miR3 (T:List Tk) (r:RS):RS:=sentryD T (setStage (nameV T (needD T 2 wOf r)) (nameD T (needD T 2 wOf r)))
def miR (T:List Tk) (r:RS):RS:=setFinal (mayB T 2 wFinal (miR3 T r)) (mayD T 2 wFinal (miR3 T r))
def restR (T:List Tk) (k:Int) (r:RS):RS:=if k=1 then atR T r else if k=2 then r else if k=3 then roR T r else if k=4 then stR T r else if k=5 then evR T r else if k=6 then sentryD T r else miR T r
theorem num_bad {T:List Tk} {r:RS} (h:r.er≠0):numD T r=r∧numW T r=0:=by
 have hkk:¬kindB T 3 r=true:=by unfold kindB;rw[decide_eq_false h,Bool.and_false];decide
 refine⟨?_,by unfold numW;rw[if_neg hkk]⟩
 unfold numD takeD failD
 rw[if_neg hkk,if_neg h]
 split <;> rfl
theorem name_bad {T:List Tk} {r:RS} (h:r.er≠0):nameD T r=r∧nameV T r= ⟨#[]⟩:=by
 have hkk:¬kindB T 1 r=true:=by unfold kindB;rw[decide_eq_false h,Bool.and_false];decide
 refine⟨?_,by unfold nameV;rw[if_neg hkk]⟩
 unfold nameD takeD failD
 rw[if_neg hkk,if_neg h]
 split <;> rfl
theorem num_kind {T:List Tk} {r:RS} (hk: (tkAt T r.i).kind≠3):numD T r=failD T 4 r∧numW T r=0:=by
 have hkk:¬kindB T 3 r=true:=by unfold kindB;rw[decide_eq_false hk,Bool.false_and];decide
 exact⟨by unfold numD takeD;rw[if_neg hkk,if_neg hk],by unfold numW;rw[if_neg hkk]⟩
theorem num_ok {T:List Tk} {r:RS} (h0:r.er=0) (hk: (tkAt T r.i).kind=3):numD T r= { r with i:=r.i+1 }∧numW T r= (tkAt T r.i).num:=by
 have hkk:kindB T 3 r=true:=by unfold kindB;rw[decide_eq_true hk,decide_eq_true h0];rfl
 exact⟨by unfold numD takeD;rw[if_pos hkk],by unfold numW;rw[if_pos hkk]⟩
theorem role_bad {T:List Tk} {r2:RS} (h:r2.er≠0):EqR r2 (roleL T (T.length+1) (moreD T r2)):=by
 have h1:moreD T r2=setNames (r2.x.names ++ [⟨#[]⟩]) r2:=by unfold moreD;rw[(name_bad h).1,(name_bad h).2]
 rw[h1,roleL_bad T _ (show(setNames (r2.x.names ++ [⟨#[]⟩]) r2).er≠0 from h)]
 exact⟨rfl,rfl,rfl,fun e=>absurd e h⟩
theorem needD_i (T:List Tk) (k:Int) (s:ByteArray) (r:RS):r.i≤(needD T k s r).i∧(needD T k s r).i≤r.i+1:=by
 unfold needD failD
 split
 · exact⟨by show r.i≤r.i+1;omega,by show r.i+1≤r.i+1;omega⟩
 · split
   · exact⟨by show r.i≤r.i;omega,by show r.i≤r.i+1;omega⟩
   · exact⟨by omega,by omega⟩
theorem mayD_x (T:List Tk) (k:Int) (s:ByteArray) (r:RS): (mayD T k s r).x=r.x:=by
 unfold mayD
 split <;> rfl
theorem on_final (T:List Tk) (r:RS): (onD T r).x.final=r.x.final:=by
 unfold onD
 split
 · show(nameD T (mayD T 2 wOn r)).x.final=_
   unfold nameD;rw[takeD_x,mayD_x]
 · rfl
theorem sentry_final (T:List Tk) (r:RS): (sentryD T r).x.final=r.x.final:=by
 unfold sentryD
 split
 · unfold ifD
   split
   · show(mayD T 2 wIf (onD T r)).x.final=_
     rw[mayD_x,on_final]
   · show(mayD T 2 wIf (onD T r)).x.final=_
     rw[mayD_x,on_final]
 · exact on_final T r
end Go.Proofs.YthlofmnmacpogaaGreatDoor
