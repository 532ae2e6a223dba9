/- A part of a proof of DeclReadsProof. -/
import Derived.Test.YthlofmnmacpogaaGreatDoorRt39
import Derived.Test.YthlofmnmacpogaaGreatDoorRt36
import Derived.Test.YthlofmnmacpogaaGreatDoorRt17
set_option maxRecDepth 100000
set_option maxHeartbeats 40000000
namespace Go.Proofs.YthlofmnmacpogaaGreatDoor
open Go.RowKit
def atR (T:List Tk) (r:RS):RS:=setInit (numW T (needD T 4 sEq r)) (numD T (needD T 4 sEq r))
def roR (T:List Tk) (r:RS):RS:=roleL T (T.length+1) (moreD T (needD T 4 sEq r))
def stR (T:List Tk) (r:RS):RS:=if mayB T 2 wIn r then setStage (nameV T (mayD T 2 wIn r)) (nameD T (mayD T 2 wIn r)) else r
def evR (T:List Tk) (r:RS):RS:=evR7 T (evR6 T (evR5 T r))
def miR3 (T:List Tk) (r:RS):RS:=sentryD T (setStage (nameV T (needD T 2 wOf r)) (nameD T (needD T 2 wOf r)))
def miR (T:List Tk) (r:RS):RS:=setFinal (mayB T 2 wFinal (miR3 T r)) (mayD T 2 wFinal (miR3 T r))
def restR (T:List Tk) (k:Int) (r:RS):RS:=if k=1 then atR T r else if k=2 then r else if k=3 then roR T r else if k=4 then stR T r else if k=5 then evR T r else if k=6 then sentryD T r else miR T r
theorem num_bad {T:List Tk} {r:RS} (h:r.er≠0):numD T r=r∧numW T r=0:=by
 have hkk:¬kindB T 3 r=true:=by unfold kindB;rw[decide_eq_false h,Bool.and_false];decide
 refine⟨?_,by unfold numW;rw[if_neg hkk]⟩
 unfold numD takeD failD
 rw[if_neg hkk,if_neg h]
 split <;> rfl
theorem name_bad {T:List Tk} {r:RS} (h:r.er≠0):nameD T r=r∧nameV T r= ⟨#[]⟩:=by
 have hkk:¬kindB T 1 r=true:=by unfold kindB;rw[decide_eq_false h,Bool.and_false];decide
 refine⟨?_,by unfold nameV;rw[if_neg hkk]⟩
 unfold nameD takeD failD
 rw[if_neg hkk,if_neg h]
 split <;> rfl
theorem num_kind {T:List Tk} {r:RS} (hk: (tkAt T r.i).kind≠3):numD T r=failD T 4 r∧numW T r=0:=by
 have hkk:¬kindB T 3 r=true:=by unfold kindB;rw[decide_eq_false hk,Bool.false_and];decide
 exact⟨by unfold numD takeD;rw[if_neg hkk,if_neg hk],by unfold numW;rw[if_neg hkk]⟩
theorem num_ok {T:List Tk} {r:RS} (h0:r.er=0) (hk: (tkAt T r.i).kind=3):numD T r= { r with i:=r.i+1 }∧numW T r= (tkAt T r.i).num:=by
 have hkk:kindB T 3 r=true:=by unfold kindB;rw[decide_eq_true hk,decide_eq_true h0];rfl
 exact⟨by unfold numD takeD;rw[if_pos hkk],by unfold numW;rw[if_pos hkk]⟩
theorem role_bad {T:List Tk} {r2:RS} (h:r2.er≠0):EqR r2 (roleL T (T.length+1) (moreD T r2)):=by
 have h1:moreD T r2=setNames (r2.x.names ++ [⟨#[]⟩]) r2:=by unfold moreD;rw[(name_bad h).1,(name_bad h).2]
 rw[h1,roleL_bad T _ (show(setNames (r2.x.names ++ [⟨#[]⟩]) r2).er≠0 from h)]
 exact⟨rfl,rfl,rfl,fun e=>absurd e h⟩
theorem needD_i (T:List Tk) (k:Int) (s:ByteArray) (r:RS):r.i≤(needD T k s r).i∧(needD T k s r).i≤r.i+1:=by
 unfold needD failD
 split
 · exact⟨by show r.i≤r.i+1;omega,by show r.i+1≤r.i+1;omega⟩
 · split
   · exact⟨by show r.i≤r.i;omega,by show r.i≤r.i+1;omega⟩
   · exact⟨by omega,by omega⟩
theorem mayD_x (T:List Tk) (k:Int) (s:ByteArray) (r:RS): (mayD T k s r).x=r.x:=by
 unfold mayD
 split <;> rfl
theorem on_final (T:List Tk) (r:RS): (onD T r).x.final=r.x.final:=by
 unfold onD
 split
 · show(nameD T (mayD T 2 wOn r)).x.final=_
   unfold nameD;rw[takeD_x,mayD_x]
 · rfl
theorem sentry_final (T:List Tk) (r:RS): (sentryD T r).x.final=r.x.final:=by
 unfold sentryD
 split
 · unfold ifD
   split
   · show(mayD T 2 wIf (onD T r)).x.final=_
     rw[mayD_x,on_final]
   · show(mayD T 2 wIf (onD T r)).x.final=_
     rw[mayD_x,on_final]
 · exact on_final T r
theorem rdnames_any {w:World} {B:Nat} {lv:Value} {T:List Tk} (h:TkIn w B lv T) (hB:B≤w.heap.size) (r:RS) {nv iv:Value} (hnm:NmRow w nv r.x.names) (hit:ItRow w iv r.x.ifs) (he:r.er=0) (hi:InD T r) (hx0:r.x.names= []) :
 Calls Tryz.prog 47 #[lv,pvV r nv iv,.bool false] w (RdP w (roleL T (T.length+1) (moreD T r))):=by
 have hTl:T.length≤1000000:=by obtain⟨_,_,_,hl,_⟩:=h;exact hl
 have HNM:=Lh hnm
 have HIT:=Lh hit
 obtain⟨ad1,n1,cap1,rfl⟩:=hnm.sl
 obtain⟨ad2,n2,cap2,rfl⟩:=hit.sl
 have PE:=pent w r (.slice ad1 n1 cap1) (.slice ad2 n2 cap2)
 obtain⟨W0,hW0⟩:∃ W,((w.alloc (.cells #[.int .i64 r.x.kind,.string r.x.name,.int .i64 r.x.line,.int .i64 r.x.col,.int .i64 r.x.init,.slice ad1 n1 cap1,.string r.x.role,.string r.x.stage,.string r.x.event,.int .i64 r.x.times,.slice ad2 n2 cap2,.bool r.x.final,.int .i64 r.i,.int .i64 r.er,.int .i64 r.line,.int .i64 r.col] 62)).alloc oB4)=W:=⟨_,rfl⟩
 rw[hW0] at PE
 have P0:=Lh PE.p
 have Q0:=Lh PE.q
 have HB0:=Lh PE.lo
 have HTK:Hid (∀ W,Below w.heap.size w W→TkIn W B lv T):=fun W hW=>h.below (hW.mono hB)
 have HBB:=Lh hB
 obtain⟨F,hF⟩:∃ F,roleL T (T.length+1) (moreD T r)=F:=⟨_,rfl⟩
 obtain⟨fl,hfl⟩:∃ fl,r.x.ifs=fl:=⟨_,rfl⟩
 have HFL:=Lh hfl
 have HST:Hid (roleL T (T.length+1) (moreD T (setNames [] r))=F∧r.er=0∧r.x.names= []∧r.x.ifs=fl∧InD T r∧(T.length:Int) < r.i+ ((T.length+1:Nat):Int)∧(([]:List ByteArray).length:Int)≤r.i):=by
  refine⟨?_,he,hx0,hfl,hi,?_,?_⟩
  · rw[←hF,show setNames [] r=r by unfold setNames;rw[←hx0]]
  · have:=hi.1;omega
  · exact hi.1
 rw[hF]
 rw[pv_is r]
 obtain⟨i0,hi0,hz0,hz1,hz2⟩:=info_parts info_strD
 have HIP:=Lh (And.intro hi0 (And.intro hz0 (And.intro hz1 hz2)))
 have HX0:=Lh hx0
 clear h hB hnm hit he hi hx0 PE hF hfl hi0 hz0 hz1 hz2
 go_enter Tryz.func47,Tryz.ntmps47
 go_wp2_with fail
 go_loopw [7] (fun v7 wr=>∃ (k:Nat) (rr:RS) (all:List ByteArray),Hid (PB wr w.heap.size rr (.slice ad1 n1 cap1) (.slice ad2 n2 cap2)∧PB wr (w.heap.size+1) zeroR (.slice none 0 0) (.slice none 0 0)∧wr.ownsRow w.heap.size 9 1 v7 all.length (strV all)∧Below w.heap.size w wr∧(roleL T k (moreD T (setNames all rr))=F∧rr.er=0∧rr.x.names= []∧rr.x.ifs=fl∧InD T rr∧(T.length:Int) < rr.i+k∧(all.length:Int)≤rr.i))) (fun _ wr=>T.length+1 - posP wr w.heap.size)
 case atStart=>exact⟨T.length+1,r,[],P0.out,Q0.out,World.ownsRow_nil _ _ _ _,HB0.out,HST.out⟩
 case round=>
  obtain⟨k,rr,all,HALL⟩:=hrel
  clear P0 Q0 HB0 HST
  obtain⟨p0,q0,own0,hb0,hst,her,hxn,hxi,hin,hfu,hal0⟩:=HALL.out
  clear HALL
  obtain⟨ad7,cap7,rfl⟩:=owns_len own0
  have HPOS:=Lh p0.pos
  have HST:=Lh (And.intro hst (And.intro her (And.intro hxn (And.intro hxi (And.intro hin (And.intro hfu hal0))))))
  have HO0:=Lh own0
  have HB0:=Lh hb0
  have hNL:all.length≤1000000:=by have:=hin.2;omega
  have HN:=Lh (rdname_any (HTK.out _ hb0) (Nat.le_trans HBB.out hb0.size) rr (nv:=(.slice ad1 n1 cap1)) (iv:=(.slice ad2 n2 cap2)) ⟨_,_,_,rfl⟩ ⟨_,_,_,rfl⟩ (fun _=>hin))
  obtain⟨R,hR⟩:∃ R,nameD T rr=R:=⟨_,rfl⟩
  obtain⟨s,hs⟩:∃ s,nameV T rr=s:=⟨_,rfl⟩
  have HMS:Hid (roleL T k (setNames (all ++ [s]) R)=F):=by
   unfold Hid;rw[←hst,more_set,hR,hs]
  have HRX:Hid (R.x.names= []∧R.x.ifs=fl):=by
   have:R.x=rr.x:=by rw[←hR];exact takeD_x T 1 rr
   exact⟨by rw[this];exact hxn,by rw[this];exact hxi⟩
  have HNX:Hid (R.er=0→(tkAt T rr.i).kind=1∧R= { rr with i:=rr.i+1 }):=by
   unfold Hid;intro h;rw[←hR] at h ⊢;exact name_next her h
  have HRI:Hid (R.er=0→InD T R):=by unfold Hid;rw[←hR];exact fun _=>hin.take 1 (by decide)
  rw[hR,hs] at HN
  clear hR hs hst her hxn hxi hin hfu hal0 own0 hb0
  go_wp2_with (first| (refine lP rfl rfl rfl (by assumption) ?_)| (refine sP rfl rfl rfl rfl (by assumption) ?_)|fail)
  refine HN.out.mono ?_
  rintro en w1 ⟨rfl,hb1⟩
  have hal:=(Below.refl w1.heap.size w1).alloc (Nat.le_refl _) oB4
  have p1:=(p0.below hb1).below hal
  have q1:=(q0.below hb1).below hal
  have z1:PB (w1.alloc oB4) w1.heap.size zeroR (.slice none 0 0) (.slice none 0 0):=heap_alloc_new w1 _
  have HO1:=Lh (owns_below (owns_below HO0.out hb1) hal)
  have HB1:=Lh ((HB0.out.trans (hb1.mono HB0.out.size)).trans (hal.mono (Nat.le_trans HB0.out.size hb1.size)))
  obtain⟨W1,hW1⟩:∃ W,(w1.alloc oB4)=W:=⟨_,rfl⟩
  have hlt0:w.heap.size+1 < w1.heap.size:=Nat.lt_of_lt_of_le q0.lt hb1.size
  rw[hW1] at p1 q1 z1 HO1 HB1
  clear hb1 hal p0 q0
  go_wp2_with (first| (refine lP rfl rfl rfl (by assumption) ?_)| (refine sP rfl rfl rfl rfl (by assumption) ?_)|fail)
  unfold Hid
  intro W2 z2 k2
  have p2:=k2.pb p1 (show w.heap.size≠w1.heap.size by omega)
  have q2:=k2.pb q1 (show w.heap.size+1≠w1.heap.size by omega)
  have HB2:=Lh (k2.below HB1.out (show w.heap.size≤w1.heap.size by omega))
  have HO2:=Lh (k2.own z1 (by decide) HO1.out)
  obtain⟨c0,c1,c2,c3,c4,c5,c6,c7,c8,c9,c10,c11,c12,c13,c14,c15⟩:=z2.facts
  have HZ2:=Lh z2
  clear p1 q1 z1 k2 HO1 HO0 HN
  by_cases hre:R.er=0
  · have hrb: (R.er !=0)=false:=by simpa using hre
    have HRE:=Lh hre
    have hlt2:=z2.lt
    have hal:=(Below.refl W2.heap.size W2).alloc (Nat.le_refl _) (.cells #[.string s] 9)
    clear hre
    go_wp2_with (at_builtin;refine app1 W2 #[.string s] rfl _ _ 34 rfl w.heap.size 9 _ 1 16 Tryz.underlying34 info_strD rfl (by decide) (by decide) _ _ _ rfl (by exact HO2.out) rfl (by simp) rfl (by simp[Value.oneCell']) (by omega) HB2.out.size ?_)
    intro v8 w3 own3 grow3 hb3
    obtain⟨ad8,cap8,rfl⟩:=owns_len own3
    have p3:=p2.grown grow3 (own_ne HO2.out p2 (by decide))
    have q3:=q2.grown grow3 (own_ne HO2.out q2 (by decide))
    have z3:=z2.grown grow3 (own_ne HO2.out z2 (by decide))
    have HO3:Hid (w3.ownsRow w.heap.size 9 1 (.slice ad8 (all.length+1) cap8) (all ++ [s]).length (strV (all ++ [s]))):=by
     unfold Hid;rw[strV_snoc,List.length_append,List.length_singleton];exact own3
    have HB3:=Lh (HB2.out.trans hb3)
    clear own3 grow3 hb3 p2 q2 z2 HZ2 HO2 hal
    go_wp2_with (first| (refine lP rfl rfl rfl (by assumption) ?_)| (refine sP rfl rfl rfl rfl (by assumption) ?_)|fail)
    unfold Hid
    intro W4 p4 k4
    have q4:=k4.pb q3 (show w.heap.size+1≠w.heap.size by omega)
    have HB4:=Lh (k4.below HB3.out (Nat.le_refl _))
    obtain⟨f0,f1,f2,f3,f4,f5,f6,f7,f8,f9,f10,f11,f12,f13,f14,f15⟩:=p4.facts
    obtain⟨g0,g1,g2,g3,g4,g5,g6,g7,g8,g9,g10,g11,g12,g13,g14,g15⟩:=p4.free
    have HO4:=Lh (k4.own p3 (by decide) HO3.out)
    clear k4 p3 q3 z3 HO3
    have HPOS4:=Lh p4.pos
    have HP4:=Lh p4
    have HQ4:=Lh q4
    obtain⟨k,rfl⟩:∃ q,k=q+1:=⟨k - 1,by have:=HST.out.2.2.2.2.1.2;have:=HST.out.2.2.2.2.2.1;omega⟩
    have HT:=Lh (rdtok_any (HTK.out _ HB4.out) R.i)
    obtain⟨x,hx⟩:∃ x,tkAt T R.i=x:=⟨_,rfl⟩
    have HX:=Lh hx
    obtain⟨hf0,hf1⟩:=tk_fields x
    clear hx
    go_wp2_with (first| (refine lP rfl rfl rfl (by assumption) ?_)| (refine sP rfl rfl rfl rfl (by assumption) ?_)|fail)
    refine HT.out.mono ?_
    rintro en w5 ⟨rfl,hb5⟩
    rw[HX.out]
    unfold tokV
    have p5:=HP4.out.below hb5
    have q5:=HQ4.out.below hb5
    have HO5:=Lh (owns_below HO4.out hb5)
    have HB5:=Lh (HB4.out.trans (hb5.mono HB4.out.size))
    clear hb5 p4 q4 HT
    by_cases hk:x.kind=1
    · have hkb: (x.kind !=1)=false:=by simpa using hk
      have HKB:Hid (kindB T 1 (setNames (all ++ [s]) R)=true):=by
       unfold Hid;show kindB T 1 R=true
       unfold kindB;rw[HX.out,decide_eq_true hk,decide_eq_true HRE.out];rfl
      have HP5:=Lh p5;have HQ5:=Lh q5
      have HPOS5:=Lh p5.pos
      clear hk p5 q5
      go_wp2_with (first| (refine lP rfl rfl rfl (by assumption) ?_)| (refine sP rfl rfl rfl rfl (by assumption) ?_)|fail)
      go_roundw
      case rel=>
       refine⟨k,R,all ++ [s],HP5.out,HQ5.out,HO5.out,HB5.out,?_,HRE.out,HRX.out.1,HRX.out.2,HRI.out HRE.out,?_,?_⟩
       · have:=HMS.out
         rw[roleL,if_pos HKB.out] at this
         exact this
       · have:=(HNX.out HRE.out).2
         have h2:R.i=rr.i+1:=by rw[this]
         have:=HST.out.2.2.2.2.2.1
         omega
       · have:=(HNX.out HRE.out).2
         have h2:R.i=rr.i+1:=by rw[this]
         have:=HST.out.2.2.2.2.2.2
         rw[List.length_append,List.length_singleton]
         omega
      case measure=>
       rw[HPOS.out,HPOS5.out]
       have:=(HNX.out HRE.out).2
       have h2:R.i=rr.i+1:=by rw[this]
       have h3:=HST.out.2.2.2.2.1
       have h4:=h3.1
       have h5:=h3.2
       omega
    · have hkb: (x.kind !=1)=true:=by simpa using hk
      have HFF:Hid (F=setNames (all ++ [s]) R):=by
       unfold Hid
       rw[←HMS.out,roleL,if_neg (show ¬kindB T 1 (setNames (all ++ [s]) R)=true by
        show ¬kindB T 1 R=true
        unfold kindB;rw[HX.out,decide_eq_false hk,Bool.false_and];decide)]
      clear hk
      obtain⟨a0,a1,a2,a3,a4,a5,a6,a7,a8,a9,a10,a11,a12,a13,a14,a15⟩:=p5.facts
      obtain⟨b0,b1,b2,b3,b4,b5,b6,b7,b8,b9,b10,b11,b12,b13,b14,b15⟩:=p5.free
      obtain⟨W7,hW7⟩:∃ W,(w5.setCell ⟨w.heap.size,5,none⟩ (.slice ad8 (all.length+1) cap8))=W:=⟨_,rfl⟩
      have p7:=p5.putNv (all ++ [s]) (.slice ad8 (all.length+1) cap8)
      have q7:=q5.over (show w.heap.size+1≠w.heap.size by omega) (.slice ad8 (all.length+1) cap8) (j:=5)
      have hbW7:=HB5.out.setCell (p:=⟨w.heap.size,5,none⟩) (Nat.le_refl _) (.slice ad8 (all.length+1) cap8)
      rw[hW7] at p7 q7 hbW7
      have HB7:=Lh hbW7
      clear hbW7
      have own7:=(KeptP.cell w5 w.heap.size 5 (.slice ad8 (all.length+1) cap8)).own p5 (by decide) HO5.out
      rw[hW7] at own7
      have HO7:=Lh own7
      clear own7 p5 q5
      go_wp2_with (first| (refine lP rfl rfl rfl (by assumption) ?_)| (refine sP rfl rfl rfl rfl (by assumption) ?_)|fail)
      unfold Hid
      intro W9 qe ke
      have hbe:=ke.below HB7.out (show w.heap.size≤w.heap.size+1 by omega)
      have hnm:NmRow W9 _ _:=ke.nm q7 ⟨_,HO7.out⟩
      have hit:=(HIT.out.keep hbe)
      rw[HFL.out,←HRX.out.2] at hit
      go_wp2
      exact bodyPost_ret (run_resP (by rfl) (by rfl) qe) rfl ⟨_,_,_,rfl,by rw[HFF.out];exact EqR.refl _,hnm,hit,hbe⟩
  · have hrb: (R.er !=0)=true:=by simpa using hre
    have HU:Hid (EqR R F):=by
     unfold Hid
     rw[←HMS.out,roleL_bad T k (show(setNames (all ++ [s]) R).er≠0 from hre)]
     exact⟨rfl,rfl,rfl,fun h=>absurd h hre⟩
    clear hre p2
    go_wp2_with (first| (refine lP rfl rfl rfl (by assumption) ?_)| (refine sP rfl rfl rfl rfl (by assumption) ?_)|fail)
    unfold Hid
    intro W9 qe ke
    have hbe:=ke.below HB2.out (show w.heap.size≤w.heap.size+1 by omega)
    have hnm:=(HNM.out.keep hbe)
    have hit:=(HIT.out.keep hbe)
    rw[HFL.out,←HRX.out.2] at hit
    go_wp2
    exact bodyPost_ret (run_resP (by rfl) (by rfl) qe) rfl ⟨_,_,_,rfl,HU.out,by rw[HRX.out.1,←HX0.out];exact hnm,hit,hbe⟩
theorem rdrest_role {w:World} {B:Nat} {lv:Value} {T:List Tk} (h:TkIn w B lv T) (hB:B≤w.heap.size) (r:RS) {nv iv:Value} (hnm:NmRow w nv r.x.names) (hit:ItRow w iv r.x.ifs) (hc:Clr T r) (hk:r.x.kind=3) (he:r.er=0) (hx0:r.x.names= []) :
 Calls Tryz.prog 27 #[lv,pvV r nv iv] w (RdP w (roR T r)):=by
 have hTl:T.length≤1000000:=by obtain⟨_,_,_,hl,_⟩:=h;exact hl
 have HNM:=Lh hnm
 have HIT:=Lh hit
 obtain⟨ad1,n1,cap1,rfl⟩:=hnm.sl
 obtain⟨ad2,n2,cap2,rfl⟩:=hit.sl
 have PE:=pent w r (.slice ad1 n1 cap1) (.slice ad2 n2 cap2)
 obtain⟨W0,hW0⟩:∃ W,((w.alloc (.cells #[.int .i64 r.x.kind,.string r.x.name,.int .i64 r.x.line,.int .i64 r.x.col,.int .i64 r.x.init,.slice ad1 n1 cap1,.string r.x.role,.string r.x.stage,.string r.x.event,.int .i64 r.x.times,.slice ad2 n2 cap2,.bool r.x.final,.int .i64 r.i,.int .i64 r.er,.int .i64 r.line,.int .i64 r.col] 62)).alloc oB4)=W:=⟨_,rfl⟩
 rw[hW0] at PE
 have p0:=PE.p
 have q0:=PE.q
 have HB0:=Lh PE.lo
 have HTK:Hid (∀ W,Below w.heap.size w W→TkIn W B lv T):=fun W hW=>h.below (hW.mono hB)
 have HBB:=Lh hB
 have HCL:=Lh hc
 obtain⟨c0,c1,c2,c3,c4,c5,c6,c7,c8,c9,c10,c11,c12,c13,c14,c15⟩:=p0.facts
 obtain⟨y0,y1,y2,y3,y4,y5,y6,y7,y8,y9,y10,y11,y12,y13,y14,y15⟩:=p0.free
 clear h hB hnm hit PE hc
 have hk1: (r.x.kind == 1)=false:=by rw[hk];rfl
 have hk3: (r.x.kind == 3)=true:=by rw[hk];rfl
 have hk4: (r.x.kind == 4)=false:=by rw[hk];rfl
 have hk5: (r.x.kind == 5)=false:=by rw[hk];rfl
 have hk6: (r.x.kind == 6)=false:=by rw[hk];rfl
 have hk7: (r.x.kind == 7)=false:=by rw[hk];rfl
 have HE0:=Lh he
 have HX0:=Lh hx0
 clear hk he hx0
 rw[pv_is r]
 have M2:=fun W (hW:Below w.heap.size w W)=>rdmust_any (HTK.out W hW) (Nat.le_trans HBB.out hW.size) r (nv:=(.slice ad1 n1 cap1)) (iv:=(.slice ad2 n2 cap2)) ⟨_,_,_,rfl⟩ ⟨_,_,_,rfl⟩ 4 sEq (fun e=>(HCL.out e).1)
 obtain⟨r2,hr2⟩:∃ q,needD T 4 sEq r=q:=⟨_,rfl⟩
 have c2':Clr T r2:=by rw[←hr2];exact HCL.out.need 4 sEq (by decide)
 have HX2:Hid (r2.x.names=r.x.names∧r2.x.ifs=r.x.ifs):=by
  have:r2.x=r.x:=by rw[←hr2];exact needD_x _ _ _ _
  rw[this];exact⟨rfl,rfl⟩
 have CL2:=Lh c2'
 have HU:Hid (roR T r=roleL T (T.length+1) (moreD T r2)):=by unfold Hid roR;rw[hr2]
 rw[hr2] at M2
 replace M2:=Lh M2
 clear hr2 c2'
 go_enter Tryz.func27,Tryz.ntmps27
 go_wp2_with (first| (refine lP rfl rfl rfl (by assumption) ?_)| (refine sP rfl rfl rfl rfl (by assumption) ?_)|fail)
 refine(M2.out _ HB0.out).mono ?_
 rintro en w1 ⟨rfl,hb1⟩
 skip
 have pp1:=p0.below hb1
 have qq1:=q0.below hb1
 have HBB1:=Lh (HB0.out.trans (hb1.mono HB0.out.size))
 clear hb1 p0 q0
 go_wp2_with (first| (refine lP rfl rfl rfl (by assumption) ?_)| (refine sP rfl rfl rfl rfl (by assumption) ?_)|fail)
 unfold Hid
 intro W1 p1 k1
 have q1:=k1.pb qq1 (show w.heap.size+1≠w.heap.size by omega)
 have HB1:=Lh (k1.below HBB1.out (Nat.le_refl _))
 try clear e0 e1 e2 e3 e4 e5 e6 e7 e8 e9 e10 e11 e12 e13 e14 e15
 try clear v0 v1 v2 v3 v4 v5 v6 v7 v8 v9 v10 v11 v12 v13 v14 v15
 obtain⟨e0,e1,e2,e3,e4,e5,e6,e7,e8,e9,e10,e11,e12,e13,e14,e15⟩:=p1.facts
 obtain⟨v0,v1,v2,v3,v4,v5,v6,v7,v8,v9,v10,v11,v12,v13,v14,v15⟩:=p1.free
 clear pp1 qq1 k1
 have NM1:=Lh (HNM.out.keep HB1.out)
 have IT1:=Lh (HIT.out.keep HB1.out)
 rw[←HX2.out.1] at NM1
 rw[←HX2.out.2] at IT1
 by_cases he2:r2.er=0
 · have heb: (r2.er == 0)=true:=by rw[beq_iff_eq];exact he2
   have HNS:=Lh (rdnames_any (HTK.out _ HB1.out) (Nat.le_trans HBB.out HB1.out.size) r2 NM1.out IT1.out he2 (CL2.out he2).1 (HX2.out.1.trans HX0.out))
   rw[←HU.out] at HNS
   clear he2
   go_wp2_with (first| (refine lP rfl rfl rfl (by assumption) ?_)| (refine sP rfl rfl rfl rfl (by assumption) ?_)|fail)
   refine HNS.out.mono ?_
   rintro en w2 ⟨R,nv1,iv1,rfl,heq,hnm,hit,hb2⟩
   obtain⟨ad6,n6,cap6,rfl⟩:=hnm.sl
   obtain⟨ad5,n5,cap5,rfl⟩:=hit.sl
   have p2:=p1.below hb2
   have q2:=q1.below hb2
   have HB2:=Lh (HB1.out.trans (hb2.mono HB1.out.size))
   have HEQ:=Lh heq
   have HNM1:=Lh hnm
   have HIT1:=Lh hit
   clear hb2 p1 q1 heq hnm hit
   go_wp2_with (first| (refine lP rfl rfl rfl (by assumption) ?_)| (refine sP rfl rfl rfl rfl (by assumption) ?_)|fail)
   unfold Hid
   intro W3 p3 k3
   have q3:=k3.pb q2 (show w.heap.size+1≠w.heap.size by omega)
   have HB3:=Lh (k3.below HB2.out (Nat.le_refl _))
   try clear e0 e1 e2 e3 e4 e5 e6 e7 e8 e9 e10 e11 e12 e13 e14 e15
   try clear v0 v1 v2 v3 v4 v5 v6 v7 v8 v9 v10 v11 v12 v13 v14 v15
   obtain⟨e0,e1,e2,e3,e4,e5,e6,e7,e8,e9,e10,e11,e12,e13,e14,e15⟩:=p3.facts
   obtain⟨v0,v1,v2,v3,v4,v5,v6,v7,v8,v9,v10,v11,v12,v13,v14,v15⟩:=p3.free
   have NM2:=Lh (k3.nm p2 HNM1.out)
   have IT2:=Lh (k3.it p2 HIT1.out)
   clear p2 q2 k3
   go_wp2_with (first| (refine lP rfl rfl rfl (by assumption) ?_)| (refine sP rfl rfl rfl rfl (by assumption) ?_)|fail)
   unfold Hid
   intro W9 qe ke
   have hbe:=ke.below HB3.out (show w.heap.size≤w.heap.size+1 by omega)
   have hnm9:NmRow W9 (.slice ad6 n6 cap6) R.x.names:=ke.nm q3 NM2.out
   have hit9:ItRow W9 (.slice ad5 n5 cap5) R.x.ifs:=ke.it q3 IT2.out
   go_wp2
   exact bodyPost_ret (run_resP (by rfl) (by rfl) qe) rfl ⟨_,_,_,rfl,HEQ.out,hnm9,hit9,hbe⟩
 · have heb: (r2.er == 0)=false:=beq_eq_false_iff_ne.2 he2
   have HEQ:=Lh (role_bad (T:=T) he2)
   rw[←HU.out] at HEQ
   clear he2
   go_wp2_with (first| (refine lP rfl rfl rfl (by assumption) ?_)| (refine sP rfl rfl rfl rfl (by assumption) ?_)|fail)
   unfold Hid
   intro W9 qe ke
   have hbe:=ke.below HB1.out (show w.heap.size≤w.heap.size+1 by omega)
   have hnm9:NmRow W9 (.slice ad1 n1 cap1) r2.x.names:=ke.nm q1 NM1.out
   have hit9:ItRow W9 (.slice ad2 n2 cap2) r2.x.ifs:=ke.it q1 IT1.out
   go_wp2
   exact bodyPost_ret (run_resP (by rfl) (by rfl) qe) rfl ⟨_,_,_,rfl,HEQ.out,hnm9,hit9,hbe⟩
theorem rdrest_stage {w:World} {B:Nat} {lv:Value} {T:List Tk} (h:TkIn w B lv T) (hB:B≤w.heap.size) (r:RS) {nv iv:Value} (hnm:NmRow w nv r.x.names) (hit:ItRow w iv r.x.ifs) (hc:Clr T r) (hk:r.x.kind=4) (he:r.er=0) (hx0:r.x.names= []) :
 Calls Tryz.prog 27 #[lv,pvV r nv iv] w (RdP w (stR T r)):=by
 have hTl:T.length≤1000000:=by obtain⟨_,_,_,hl,_⟩:=h;exact hl
 have HNM:=Lh hnm
 have HIT:=Lh hit
 obtain⟨ad1,n1,cap1,rfl⟩:=hnm.sl
 obtain⟨ad2,n2,cap2,rfl⟩:=hit.sl
 have PE:=pent w r (.slice ad1 n1 cap1) (.slice ad2 n2 cap2)
 obtain⟨W0,hW0⟩:∃ W,((w.alloc (.cells #[.int .i64 r.x.kind,.string r.x.name,.int .i64 r.x.line,.int .i64 r.x.col,.int .i64 r.x.init,.slice ad1 n1 cap1,.string r.x.role,.string r.x.stage,.string r.x.event,.int .i64 r.x.times,.slice ad2 n2 cap2,.bool r.x.final,.int .i64 r.i,.int .i64 r.er,.int .i64 r.line,.int .i64 r.col] 62)).alloc oB4)=W:=⟨_,rfl⟩
 rw[hW0] at PE
 have p0:=PE.p
 have q0:=PE.q
 have HB0:=Lh PE.lo
 have HTK:Hid (∀ W,Below w.heap.size w W→TkIn W B lv T):=fun W hW=>h.below (hW.mono hB)
 have HBB:=Lh hB
 have HCL:=Lh hc
 obtain⟨c0,c1,c2,c3,c4,c5,c6,c7,c8,c9,c10,c11,c12,c13,c14,c15⟩:=p0.facts
 obtain⟨y0,y1,y2,y3,y4,y5,y6,y7,y8,y9,y10,y11,y12,y13,y14,y15⟩:=p0.free
 clear h hB hnm hit PE hc
 have hk1: (r.x.kind == 1)=false:=by rw[hk];rfl
 have hk3: (r.x.kind == 3)=false:=by rw[hk];rfl
 have hk4: (r.x.kind == 4)=true:=by rw[hk];rfl
 have hk5: (r.x.kind == 5)=false:=by rw[hk];rfl
 have hk6: (r.x.kind == 6)=false:=by rw[hk];rfl
 have hk7: (r.x.kind == 7)=false:=by rw[hk];rfl
 have HE0:=Lh he
 have HX0:=Lh hx0
 clear hk he hx0
 rw[pv_is r]
 have HI:=Lh (rdis_any (HTK.out _ HB0.out) (Nat.le_trans HBB.out HB0.out.size) r.i 2 wIn)
 cases hq:isTk T r.i 2 wIn
 · have HF:Hid (stR T r=r):=by unfold Hid stR;rw[if_neg (by rw[mayB_good HE0.out,hq];decide)]
   rw[hq] at HI
   clear hq
   go_enter Tryz.func27,Tryz.ntmps27
   go_wp2_with (first| (refine lP rfl rfl rfl (by assumption) ?_)| (refine sP rfl rfl rfl rfl (by assumption) ?_)|fail)
   refine HI.out.mono ?_
   rintro en w1 ⟨rfl,hb1⟩
   have p1:=p0.below hb1
   have q1:=q0.below hb1
   have HB1:=Lh (HB0.out.trans (hb1.mono HB0.out.size))
   clear hb1 p0 q0
   go_wp2_with (first| (refine lP rfl rfl rfl (by assumption) ?_)| (refine sP rfl rfl rfl rfl (by assumption) ?_)|fail)
   unfold Hid
   intro W9 qe ke
   have hbe:=ke.below HB1.out (show w.heap.size≤w.heap.size+1 by omega)
   have hnm9:NmRow W9 (.slice ad1 n1 cap1) r.x.names:=HNM.out.keep hbe
   have hit9:ItRow W9 (.slice ad2 n2 cap2) r.x.ifs:=HIT.out.keep hbe
   go_wp2
   exact bodyPost_ret (run_resP (by rfl) (by rfl) qe) rfl ⟨_,_,_,rfl,by rw[HF.out];exact EqR.refl _,hnm9,hit9,hbe⟩
 · have HIN:=isTk_in hq (by decide)
   have c1':=HCL.out.step HE0.out hq (by decide)
   have HN:=fun W (hW:Below w.heap.size w W)=>rdname_any (HTK.out W hW) (Nat.le_trans HBB.out hW.size) { r with i:=r.i+1 } (nv:=(.slice ad1 n1 cap1)) (iv:=(.slice ad2 n2 cap2)) ⟨_,_,_,rfl⟩ ⟨_,_,_,rfl⟩ (fun e=>(c1' e).1)
   obtain⟨R,hR⟩:∃ R,nameD T { r with i:=r.i+1 }=R:=⟨_,rfl⟩
   obtain⟨s,hs⟩:∃ s,nameV T { r with i:=r.i+1 }=s:=⟨_,rfl⟩
   rw[hR,hs] at HN
   replace HN:=Lh HN
   have HF:Hid (stR T r=setStage s R):=by
    unfold Hid stR
    rw[if_pos (by rw[mayB_good HE0.out,hq])]
    unfold mayD
    rw[if_pos (by rw[mayB_good HE0.out,hq]),hR,hs]
   have HXR:Hid (R.x=r.x):=by rw[←hR];exact takeD_x T 1 _
   have hwr:IntKind.i64.wrap (r.i+1)=r.i+1:=IntWalk.i64_in _ ⟨by omega,by omega⟩
   rw[hq] at HI
   clear hq hR hs c1' HIN
   go_enter Tryz.func27,Tryz.ntmps27
   go_wp2_with (first| (refine lP rfl rfl rfl (by assumption) ?_)| (refine sP rfl rfl rfl rfl (by assumption) ?_)|fail)
   refine HI.out.mono ?_
   rintro en w1 ⟨rfl,hb1⟩
   have p1:=p0.below hb1
   have q1:=q0.below hb1
   have HB1:=Lh (HB0.out.trans (hb1.mono HB0.out.size))
   try clear e0 e1 e2 e3 e4 e5 e6 e7 e8 e9 e10 e11 e12 e13 e14 e15
   try clear v0 v1 v2 v3 v4 v5 v6 v7 v8 v9 v10 v11 v12 v13 v14 v15
   obtain⟨e0,e1,e2,e3,e4,e5,e6,e7,e8,e9,e10,e11,e12,e13,e14,e15⟩:=p1.facts
   obtain⟨v0,v1,v2,v3,v4,v5,v6,v7,v8,v9,v10,v11,v12,v13,v14,v15⟩:=p1.free
   obtain⟨W2,hW2⟩:∃ W,(w1.setCell ⟨w.heap.size,12,none⟩ (.int .i64 (r.i+1)))=W:=⟨_,rfl⟩
   have p2:=p1.putI (r.i+1)
   have q2:=q1.over (show w.heap.size+1≠w.heap.size by omega) (.int .i64 (r.i+1)) (j:=12)
   have hbW2:=HB1.out.setCell (p:=⟨w.heap.size,12,none⟩) (Nat.le_refl _) (.int .i64 (r.i+1))
   rw[hW2] at p2 q2 hbW2
   have HB2:=Lh hbW2
   clear hbW2
   clear hb1 p0 q0 p1 q1 HI
   go_wp2_with (first| (refine lP rfl rfl rfl (by assumption) ?_)| (refine sP rfl rfl rfl rfl (by assumption) ?_)|fail)
   refine(HN.out _ HB2.out).mono ?_
   rintro en w3 ⟨rfl,hb3⟩
   have hal:=(Below.refl w3.heap.size w3).alloc (Nat.le_refl _) oB4
   have pp3:=(p2.below hb3).below hal
   have qq3:=(q2.below hb3).below hal
   have zz3:PB (w3.alloc oB4) w3.heap.size zeroR (.slice none 0 0) (.slice none 0 0):=heap_alloc_new w3 _
   have HBB3:=Lh ((HB2.out.trans (hb3.mono HB2.out.size)).trans (hal.mono (Nat.le_trans HB2.out.size hb3.size)))
   have hlt3:w.heap.size+1 < w3.heap.size:=Nat.lt_of_lt_of_le q2.lt hb3.size
   obtain⟨X3,hX3⟩:∃ W,(w3.alloc oB4)=W:=⟨_,rfl⟩
   rw[hX3] at pp3 qq3 zz3 HBB3
   clear hb3 hal p2 q2
   go_wp2_with (first| (refine lP rfl rfl rfl (by assumption) ?_)| (refine sP rfl rfl rfl rfl (by assumption) ?_)|fail)
   unfold Hid
   intro Y3 z3 k3
   have y3:=k3.pb pp3 (show w.heap.size≠w3.heap.size by omega)
   have x3:=k3.pb qq3 (show w.heap.size+1≠w3.heap.size by omega)
   have HBC3:=Lh (k3.below HBB3.out (show w.heap.size≤w3.heap.size by omega))
   clear pp3 qq3 zz3 k3
   go_wp2_with (first| (refine lP rfl rfl rfl (by assumption) ?_)| (refine sP rfl rfl rfl rfl (by assumption) ?_)|fail)
   unfold Hid
   intro W4 p4 k4
   have q4:=k4.pb x3 (show w.heap.size+1≠w.heap.size by omega)
   have HB4:=Lh (k4.below HBC3.out (Nat.le_refl _))
   try clear e0 e1 e2 e3 e4 e5 e6 e7 e8 e9 e10 e11 e12 e13 e14 e15
   try clear v0 v1 v2 v3 v4 v5 v6 v7 v8 v9 v10 v11 v12 v13 v14 v15
   obtain⟨e0,e1,e2,e3,e4,e5,e6,e7,e8,e9,e10,e11,e12,e13,e14,e15⟩:=p4.facts
   obtain⟨v0,v1,v2,v3,v4,v5,v6,v7,v8,v9,v10,v11,v12,v13,v14,v15⟩:=p4.free
   clear y3 x3 z3 k4
   obtain⟨W5,hW5⟩:∃ W,(W4.setCell ⟨w.heap.size,7,none⟩ (.string s))=W:=⟨_,rfl⟩
   have p5:=p4.putStage s
   have q5:=q4.over (show w.heap.size+1≠w.heap.size by omega) (.string s) (j:=7)
   have hbW5:=HB4.out.setCell (p:=⟨w.heap.size,7,none⟩) (Nat.le_refl _) (.string s)
   rw[hW5] at p5 q5 hbW5
   have HB5:=Lh hbW5
   clear hbW5
   clear p4 q4
   go_wp2_with (first| (refine lP rfl rfl rfl (by assumption) ?_)| (refine sP rfl rfl rfl rfl (by assumption) ?_)|fail)
   unfold Hid
   intro W9 qe ke
   have hbe:=ke.below HB5.out (show w.heap.size≤w.heap.size+1 by omega)
   have hnm9:NmRow W9 (.slice ad1 n1 cap1) (setStage s R).x.names:=by rw[show(setStage s R).x.names=r.x.names by show R.x.names=_;rw[HXR.out]];exact HNM.out.keep hbe
   have hit9:ItRow W9 (.slice ad2 n2 cap2) (setStage s R).x.ifs:=by rw[show(setStage s R).x.ifs=r.x.ifs by show R.x.ifs=_;rw[HXR.out]];exact HIT.out.keep hbe
   go_wp2
   exact bodyPost_ret (run_resP (by rfl) (by rfl) qe) rfl ⟨_,_,_,rfl,by rw[HF.out];exact EqR.refl _,hnm9,hit9,hbe⟩
end Go.Proofs.YthlofmnmacpogaaGreatDoor
