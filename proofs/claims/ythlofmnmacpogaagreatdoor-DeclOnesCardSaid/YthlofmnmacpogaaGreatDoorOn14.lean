/- A part of a proof: 'warder/warderlaw07.DeclOnes' returns true for every input and leaves its arguments as they were; no condition. The row lists package-level variables of Go's library with what they hold at the start; the card ties them to the program's text. -/
import Derived.Test.YthlofmnmacpogaaGreatDoorOn13
namespace Go.Proofs.YthlofmnmacpogaaGreatDoor
open Go.RowKit
set_option maxRecDepth 100000 in
set_option maxHeartbeats 8000000 in
theorem one_role {w:World} {lv:Value} {T:List Tk} (h:TkIn w w.heap.size lv T) (i:Int) (hk: (tkAt T i).kind=2) (hkk:kindN (tkAt T i).text=3) :
 Calls Tryz.prog 11 #[lv,.int .i64 i] w fun e w'=>OnePost w (oneD T i) e w':=by
 have hin:0≤i∧i < (T.length:Int):=tk_in (by rw[hk];decide)
 have hTl:T.length≤1000000:=by obtain⟨_,_,_,hl,_⟩:=h;exact hl
 have HTL:=Lib.hid hTl
 have HI8:=Lib.hid (show InD T (startD T i) from⟨show 0≤i+1 by omega,show i+1≤(T.length:Int) by omega⟩)
 have HO:=Lib.hid (show oneD T i=if(needD T 4 sSemi (roleD T (startD T i))).er=0 then .ok (needD T 4 sSemi (roleD T (startD T i))).x (needD T 4 sSemi (roleD T (startD T i))).i else .bad (needD T 4 sSemi (roleD T (startD T i))).er (needD T 4 sSemi (roleD T (startD T i))).line (needD T 4 sSemi (roleD T (startD T i))).col by unfold oneD;rw[hkk,if_neg (by rw[hk];decide)];rfl)
 have HIJ:=Lib.hid (show InD T (roleD T (startD T i)) from inD_role HI8.out)
 have HKK:=Lib.hid hkk
 have HK:=Lib.hid hk
 clear hkk hk
 have HS0:=Lib.hid (OneS.start h i)
 have hsz0: (((w.alloc (.cells #[.int .i64 0,.string ⟨#[]⟩,.int .i64 0,.int .i64 0,.int .i64 0,.slice none 0 0,.string ⟨#[]⟩,.string ⟨#[]⟩,.string ⟨#[]⟩,.int .i64 0,.slice none 0 0,.bool false] 37)).alloc (.cells #[.int .i64 0,.int .i64 0,.int .i64 0] 28)).alloc (.cells #[lv,.int .i64 i,.int .i64 0,.string ⟨#[]⟩,.int .i64 0,.int .i64 0,.int .i64 0,.slice none 0 0,.string ⟨#[]⟩,.string ⟨#[]⟩,.string ⟨#[]⟩,.int .i64 0,.slice none 0 0,.bool false,.int .i64 0,.int .i64 0,.int .i64 0] 53)).heap.size=w.heap.size+3:=by simp
 have HZ0:=Lib.hid hsz0
 obtain⟨x,hx⟩:∃ x,tkAt T i=x:=⟨_,rfl⟩
 have HX:=Lib.hid hx
 obtain⟨ad,cap,rfl,-,-⟩:=h
 clear hx hsz0
 go_enter Tryz.func11,Tryz.ntmps11
 go_wp2_with fail
 refine(dnow_any HS0.out.rd).mono ?_
 rintro en w1 ⟨rfl,hb1⟩
 rw[show tkAt T (rs0 i).i=x from HX.out]
 unfold tokV
 have HS1:=Lib.hid ((HS0.out.then hb1).alloc (.cells #[.int .i64 x.kind,.string x.text,.int .i64 x.num,.int .i64 x.line,.int .i64 x.col] 48))
 have HT:=Lib.hid (show TkB (w1.alloc (.cells #[.int .i64 x.kind,.string x.text,.int .i64 x.num,.int .i64 x.line,.int .i64 x.col] 48)) w1.heap.size x from heap_alloc_new w1 _)
 have hsz1:w.heap.size+3≤w1.heap.size:=by rw[←HZ0.out];exact hb1.size
 have HZ1:=Lib.hid (show(w1.alloc (.cells #[.int .i64 x.kind,.string x.text,.int .i64 x.num,.int .i64 x.line,.int .i64 x.col] 48)).heap.size=w1.heap.size+1 by simp)
 clear hb1
 obtain⟨t0,t1,t2,t3,t4⟩:=HT.out.facts
 go_wp2_with fail
 refine(drule_any x.text _).mono ?_
 rintro en w2 ⟨rfl,hw⟩
 rw[hw]
 clear hw
 replace HKK:=Lib.hid (show kindN x.text=3 by rw[←HX.out];exact HKK.out)
 have hkb: (x.kind !=2)=false:=by rw[←HX.out,HK.out];rfl
 rw[HKK.out,show ruleF 3=Value.func (.func 39) #[] #[] from rfl]
 have hlo:-9223372036854775808≤i:=by omega
 have hhi:i≤2000000:=by have:=HTL.out;omega
 have hnil:∀ W:World,Sem.run Tryz.prog (binOp .eql 55 (.func (.func 39) #[] #[]) .nilFunc) W=.ok (.bool false) W:=fun W=>by rfl
 clear hTl hin
 obtain⟨_,c1,c2,_,c4,c5,_,_,_,_,_,_,_,_,_,_,_⟩:=HS1.out.rd.facts
 obtain⟨_,f1,f2,_,f4,f5,_,_,_,_,_,_,_,_,_,_,_⟩:=HS1.out.rd.free
 go_upto_region 7 with fail
 go_cut [] (fun wx=>Hid (OneS w wx w.heap.size (.slice ad T.length cap) (.slice none 0 0) (.slice none 0 0) T ⟨i,{ noSt with kind:=3,line:=x.line,col:=x.col },0,0,0⟩))
 case first=>
  go_region
  all_goals
   go_wp2_with fail
   go_meet
   first
   | exact Lib.hid (OneS.drew (HS1.out.next ((((DT.of_rd HS1.out.rd).setKind 3).setLine x.line).setCol x.col)))
   | exact Lib.hid (OneS.drew (HS1.out.next ((((DT.of_rd HS1.out.rd).setLine x.line).setCol x.col).setKind 3)))
 have HS7:=hcut
 clear hcut c1 c2 c4 c5 f1 f2 f4 f5 t0 t1 t2 t3 t4
 obtain⟨_,c1,_,_,_,_,_,_,_,_,_,_,_,_,_,_,_⟩:=HS7.out.rd.facts
 obtain⟨_,f1,_,_,_,_,_,_,_,_,_,_,_,_,_,_,_⟩:=HS7.out.rd.free
 have HS8:=Lib.hid (HS7.out.next ((DT.of_rd HS7.out.rd).setI (i+1)))
 have he8: (⟨i+1,{ noSt with kind:=3,line:=x.line,col:=x.col },0,0,0⟩:RS)=startD T i:=by unfold startD;rw[HX.out,HKK.out]
 unfold Hid at HS8
 rw[show({ (⟨i,{ noSt with kind:=3,line:=x.line,col:=x.col },0,0,0⟩:RS) with i:=i+1 })=startD T i from he8] at HS8
 replace HS8:=Lib.hid HS8
 clear he8
 go_wp2_with fail
 refine(drole_any HS8.out.rd rfl HS8.out.size HI8.out).mono ?_
 obtain⟨r3,hr3⟩:∃ q,roleD T (startD T i)=q:=⟨_,rfl⟩
 unfold Hid at HO HIJ
 rw[hr3] at HO HIJ ⊢
 replace HO:=Lib.hid HO
 replace HIJ:=Lib.hid HIJ
 rintro en w4 ⟨rfl,nv,hc⟩
 obtain⟨ad5,cap5,hv5⟩:=owns_len hc.rd.nm
 obtain⟨n5,hn5⟩:∃ n,r3.x.names.length=n:=⟨_,rfl⟩
 rw[hn5] at hv5
 clear hn5
 subst hv5
 have HS9:=Lib.hid (HS8.out.next hc)
 clear hc hr3 HS8 HS7 HS1 c1 f1
 go_wp2_with fail
 refine(dneed_any HS9.out.rd HS9.out.size 4 sSemi (bndD HIJ.out HTL.out).1 (bndD HIJ.out HTL.out).2).mono ?_
 obtain⟨r4,hr4⟩:∃ q,needD T 4 sSemi r3=q:=⟨_,rfl⟩
 unfold Hid at HO
 rw[hr4] at HO ⊢
 replace HO:=Lib.hid HO
 rintro en w5 ⟨rfl,hc⟩
 have HS10:=Lib.hid (HS9.out.next hc)
 clear hc hr4 HS9
 go_wp2_with fail
 refine(dwell_any HS10.out.rd).mono ?_
 rintro en w6 ⟨rfl,hw⟩
 rw[hw]
 clear hw
 obtain⟨c0,c1,c2,c3,c4,c5,c6,c7,c8,c9,c10,c11,c12,c13,c14,c15,c16⟩:=HS10.out.rd.facts
 obtain⟨a0,a1,a2,a3,a4,a5,a6,a7,a8,a9,a10,a11⟩:=HS10.out.st.facts
 obtain⟨b0,b1,b2,b3,b4,b5,b6,b7,b8,b9,b10,b11⟩:=HS10.out.st.free
 obtain⟨d0,d1,d2⟩:=HS10.out.ft.facts
 obtain⟨g0,g1,g2⟩:=HS10.out.ft.free
 by_cases h0:r4.er=0
 · replace HO:=Lib.hid (HO.out.trans (if_pos h0))
   rw[decide_eq_true h0]
   have HBD:=Lib.hid HS10.out.good.out
   clear h0 c14 c15 c16
   go_wp2
   go_region
   go_wp2
   refine bodyPost_ret (one_results HBD.out.1.drew HBD.out.2.1.drew r4.i rfl rfl rfl) rfl ?_
   rw[HO.out]
   exact⟨_,_,rfl,HBD.out.2.2.1.drew,HBD.out.2.2.2.1.drew,HBD.out.2.2.2.2.drew⟩
 · replace HO:=Lib.hid (HO.out.trans (if_neg h0))
   rw[decide_eq_false h0]
   have HBD:=Lib.hid (HS10.out.bad r4.er r4.line r4.col).out
   clear h0
   go_wp2
   go_region
   go_wp2
   refine bodyPost_ret (one_results HBD.out.1.drew HBD.out.2.1.drew 0 rfl rfl rfl) rfl ?_
   rw[HO.out]
   exact⟨rfl,HBD.out.2.2.drew⟩
end Go.Proofs.YthlofmnmacpogaaGreatDoor
namespace Go.Proofs.YthlofmnmacpogaaGreatDoor
open Go.RowKit
set_option maxRecDepth 100000 in
set_option maxHeartbeats 8000000 in
theorem one_stage {w:World} {lv:Value} {T:List Tk} (h:TkIn w w.heap.size lv T) (i:Int) (hk: (tkAt T i).kind=2) (hkk:kindN (tkAt T i).text=4) :
 Calls Tryz.prog 11 #[lv,.int .i64 i] w fun e w'=>OnePost w (oneD T i) e w':=by
 have hin:0≤i∧i < (T.length:Int):=tk_in (by rw[hk];decide)
 have hTl:T.length≤1000000:=by obtain⟨_,_,_,hl,_⟩:=h;exact hl
 have HTL:=Lib.hid hTl
 have HI8:=Lib.hid (show InD T (startD T i) from⟨show 0≤i+1 by omega,show i+1≤(T.length:Int) by omega⟩)
 have HO:=Lib.hid (show oneD T i=if(needD T 4 sSemi (stageD T (startD T i))).er=0 then .ok (needD T 4 sSemi (stageD T (startD T i))).x (needD T 4 sSemi (stageD T (startD T i))).i else .bad (needD T 4 sSemi (stageD T (startD T i))).er (needD T 4 sSemi (stageD T (startD T i))).line (needD T 4 sSemi (stageD T (startD T i))).col by unfold oneD;rw[hkk,if_neg (by rw[hk];decide)];rfl)
 have HIJ:=Lib.hid (show InD T (stageD T (startD T i)) from inD_stage HI8.out)
 have HKK:=Lib.hid hkk
 have HK:=Lib.hid hk
 clear hkk hk
 have HS0:=Lib.hid (OneS.start h i)
 have hsz0: (((w.alloc (.cells #[.int .i64 0,.string ⟨#[]⟩,.int .i64 0,.int .i64 0,.int .i64 0,.slice none 0 0,.string ⟨#[]⟩,.string ⟨#[]⟩,.string ⟨#[]⟩,.int .i64 0,.slice none 0 0,.bool false] 37)).alloc (.cells #[.int .i64 0,.int .i64 0,.int .i64 0] 28)).alloc (.cells #[lv,.int .i64 i,.int .i64 0,.string ⟨#[]⟩,.int .i64 0,.int .i64 0,.int .i64 0,.slice none 0 0,.string ⟨#[]⟩,.string ⟨#[]⟩,.string ⟨#[]⟩,.int .i64 0,.slice none 0 0,.bool false,.int .i64 0,.int .i64 0,.int .i64 0] 53)).heap.size=w.heap.size+3:=by simp
 have HZ0:=Lib.hid hsz0
 obtain⟨x,hx⟩:∃ x,tkAt T i=x:=⟨_,rfl⟩
 have HX:=Lib.hid hx
 obtain⟨ad,cap,rfl,-,-⟩:=h
 clear hx hsz0
 go_enter Tryz.func11,Tryz.ntmps11
 go_wp2_with fail
 refine(dnow_any HS0.out.rd).mono ?_
 rintro en w1 ⟨rfl,hb1⟩
 rw[show tkAt T (rs0 i).i=x from HX.out]
 unfold tokV
 have HS1:=Lib.hid ((HS0.out.then hb1).alloc (.cells #[.int .i64 x.kind,.string x.text,.int .i64 x.num,.int .i64 x.line,.int .i64 x.col] 48))
 have HT:=Lib.hid (show TkB (w1.alloc (.cells #[.int .i64 x.kind,.string x.text,.int .i64 x.num,.int .i64 x.line,.int .i64 x.col] 48)) w1.heap.size x from heap_alloc_new w1 _)
 have hsz1:w.heap.size+3≤w1.heap.size:=by rw[←HZ0.out];exact hb1.size
 have HZ1:=Lib.hid (show(w1.alloc (.cells #[.int .i64 x.kind,.string x.text,.int .i64 x.num,.int .i64 x.line,.int .i64 x.col] 48)).heap.size=w1.heap.size+1 by simp)
 clear hb1
 obtain⟨t0,t1,t2,t3,t4⟩:=HT.out.facts
 go_wp2_with fail
 refine(drule_any x.text _).mono ?_
 rintro en w2 ⟨rfl,hw⟩
 rw[hw]
 clear hw
 replace HKK:=Lib.hid (show kindN x.text=4 by rw[←HX.out];exact HKK.out)
 have hkb: (x.kind !=2)=false:=by rw[←HX.out,HK.out];rfl
 rw[HKK.out,show ruleF 4=Value.func (.func 40) #[] #[] from rfl]
 have hlo:-9223372036854775808≤i:=by omega
 have hhi:i≤2000000:=by have:=HTL.out;omega
 have hnil:∀ W:World,Sem.run Tryz.prog (binOp .eql 55 (.func (.func 40) #[] #[]) .nilFunc) W=.ok (.bool false) W:=fun W=>by rfl
 clear hTl hin
 obtain⟨_,c1,c2,_,c4,c5,_,_,_,_,_,_,_,_,_,_,_⟩:=HS1.out.rd.facts
 obtain⟨_,f1,f2,_,f4,f5,_,_,_,_,_,_,_,_,_,_,_⟩:=HS1.out.rd.free
 go_upto_region 7 with fail
 go_cut [] (fun wx=>Hid (OneS w wx w.heap.size (.slice ad T.length cap) (.slice none 0 0) (.slice none 0 0) T ⟨i,{ noSt with kind:=4,line:=x.line,col:=x.col },0,0,0⟩))
 case first=>
  go_region
  all_goals
   go_wp2_with fail
   go_meet
   first
   | exact Lib.hid (OneS.drew (HS1.out.next ((((DT.of_rd HS1.out.rd).setKind 4).setLine x.line).setCol x.col)))
   | exact Lib.hid (OneS.drew (HS1.out.next ((((DT.of_rd HS1.out.rd).setLine x.line).setCol x.col).setKind 4)))
 have HS7:=hcut
 clear hcut c1 c2 c4 c5 f1 f2 f4 f5 t0 t1 t2 t3 t4
 obtain⟨_,c1,_,_,_,_,_,_,_,_,_,_,_,_,_,_,_⟩:=HS7.out.rd.facts
 obtain⟨_,f1,_,_,_,_,_,_,_,_,_,_,_,_,_,_,_⟩:=HS7.out.rd.free
 have HS8:=Lib.hid (HS7.out.next ((DT.of_rd HS7.out.rd).setI (i+1)))
 have he8: (⟨i+1,{ noSt with kind:=4,line:=x.line,col:=x.col },0,0,0⟩:RS)=startD T i:=by unfold startD;rw[HX.out,HKK.out]
 unfold Hid at HS8
 rw[show({ (⟨i,{ noSt with kind:=4,line:=x.line,col:=x.col },0,0,0⟩:RS) with i:=i+1 })=startD T i from he8] at HS8
 replace HS8:=Lib.hid HS8
 clear he8
 go_wp2_with fail
 refine(dstage_any HS8.out.rd HS8.out.size HI8.out).mono ?_
 obtain⟨r3,hr3⟩:∃ q,stageD T (startD T i)=q:=⟨_,rfl⟩
 unfold Hid at HO HIJ
 rw[hr3] at HO HIJ ⊢
 replace HO:=Lib.hid HO
 replace HIJ:=Lib.hid HIJ
 rintro en w4 ⟨rfl,hc⟩
 have HS9:=Lib.hid (HS8.out.next hc)
 clear hc hr3 HS8 HS7 HS1 c1 f1
 go_wp2_with fail
 refine(dneed_any HS9.out.rd HS9.out.size 4 sSemi (bndD HIJ.out HTL.out).1 (bndD HIJ.out HTL.out).2).mono ?_
 obtain⟨r4,hr4⟩:∃ q,needD T 4 sSemi r3=q:=⟨_,rfl⟩
 unfold Hid at HO
 rw[hr4] at HO ⊢
 replace HO:=Lib.hid HO
 rintro en w5 ⟨rfl,hc⟩
 have HS10:=Lib.hid (HS9.out.next hc)
 clear hc hr4 HS9
 go_wp2_with fail
 refine(dwell_any HS10.out.rd).mono ?_
 rintro en w6 ⟨rfl,hw⟩
 rw[hw]
 clear hw
 obtain⟨c0,c1,c2,c3,c4,c5,c6,c7,c8,c9,c10,c11,c12,c13,c14,c15,c16⟩:=HS10.out.rd.facts
 obtain⟨a0,a1,a2,a3,a4,a5,a6,a7,a8,a9,a10,a11⟩:=HS10.out.st.facts
 obtain⟨b0,b1,b2,b3,b4,b5,b6,b7,b8,b9,b10,b11⟩:=HS10.out.st.free
 obtain⟨d0,d1,d2⟩:=HS10.out.ft.facts
 obtain⟨g0,g1,g2⟩:=HS10.out.ft.free
 by_cases h0:r4.er=0
 · replace HO:=Lib.hid (HO.out.trans (if_pos h0))
   rw[decide_eq_true h0]
   have HBD:=Lib.hid HS10.out.good.out
   clear h0 c14 c15 c16
   go_wp2
   go_region
   go_wp2
   refine bodyPost_ret (one_results HBD.out.1.drew HBD.out.2.1.drew r4.i rfl rfl rfl) rfl ?_
   rw[HO.out]
   exact⟨_,_,rfl,HBD.out.2.2.1.drew,HBD.out.2.2.2.1.drew,HBD.out.2.2.2.2.drew⟩
 · replace HO:=Lib.hid (HO.out.trans (if_neg h0))
   rw[decide_eq_false h0]
   have HBD:=Lib.hid (HS10.out.bad r4.er r4.line r4.col).out
   clear h0
   go_wp2
   go_region
   go_wp2
   refine bodyPost_ret (one_results HBD.out.1.drew HBD.out.2.1.drew 0 rfl rfl rfl) rfl ?_
   rw[HO.out]
   exact⟨rfl,HBD.out.2.2.drew⟩
end Go.Proofs.YthlofmnmacpogaaGreatDoor
namespace Go.Proofs.YthlofmnmacpogaaGreatDoor
open Go.RowKit
set_option maxRecDepth 100000 in
set_option maxHeartbeats 8000000 in
theorem one_event {w:World} {lv:Value} {T:List Tk} (h:TkIn w w.heap.size lv T) (i:Int) (hk: (tkAt T i).kind=2) (hkk:kindN (tkAt T i).text=5) :
 Calls Tryz.prog 11 #[lv,.int .i64 i] w fun e w'=>OnePost w (oneD T i) e w':=by
 have hin:0≤i∧i < (T.length:Int):=tk_in (by rw[hk];decide)
 have hTl:T.length≤1000000:=by obtain⟨_,_,_,hl,_⟩:=h;exact hl
 have HTL:=Lib.hid hTl
 have HI8:=Lib.hid (show InD T (startD T i) from⟨show 0≤i+1 by omega,show i+1≤(T.length:Int) by omega⟩)
 have HO:=Lib.hid (show oneD T i=if(needD T 4 sSemi (eventD T (startD T i))).er=0 then .ok (needD T 4 sSemi (eventD T (startD T i))).x (needD T 4 sSemi (eventD T (startD T i))).i else .bad (needD T 4 sSemi (eventD T (startD T i))).er (needD T 4 sSemi (eventD T (startD T i))).line (needD T 4 sSemi (eventD T (startD T i))).col by unfold oneD;rw[hkk,if_neg (by rw[hk];decide)];rfl)
 have HIJ:=Lib.hid (show InD T (eventD T (startD T i)) from inD_event HI8.out)
 have HKK:=Lib.hid hkk
 have HK:=Lib.hid hk
 clear hkk hk
 have HS0:=Lib.hid (OneS.start h i)
 have hsz0: (((w.alloc (.cells #[.int .i64 0,.string ⟨#[]⟩,.int .i64 0,.int .i64 0,.int .i64 0,.slice none 0 0,.string ⟨#[]⟩,.string ⟨#[]⟩,.string ⟨#[]⟩,.int .i64 0,.slice none 0 0,.bool false] 37)).alloc (.cells #[.int .i64 0,.int .i64 0,.int .i64 0] 28)).alloc (.cells #[lv,.int .i64 i,.int .i64 0,.string ⟨#[]⟩,.int .i64 0,.int .i64 0,.int .i64 0,.slice none 0 0,.string ⟨#[]⟩,.string ⟨#[]⟩,.string ⟨#[]⟩,.int .i64 0,.slice none 0 0,.bool false,.int .i64 0,.int .i64 0,.int .i64 0] 53)).heap.size=w.heap.size+3:=by simp
 have HZ0:=Lib.hid hsz0
 obtain⟨x,hx⟩:∃ x,tkAt T i=x:=⟨_,rfl⟩
 have HX:=Lib.hid hx
 obtain⟨ad,cap,rfl,-,-⟩:=h
 clear hx hsz0
 go_enter Tryz.func11,Tryz.ntmps11
 go_wp2_with fail
 refine(dnow_any HS0.out.rd).mono ?_
 rintro en w1 ⟨rfl,hb1⟩
 rw[show tkAt T (rs0 i).i=x from HX.out]
 unfold tokV
 have HS1:=Lib.hid ((HS0.out.then hb1).alloc (.cells #[.int .i64 x.kind,.string x.text,.int .i64 x.num,.int .i64 x.line,.int .i64 x.col] 48))
 have HT:=Lib.hid (show TkB (w1.alloc (.cells #[.int .i64 x.kind,.string x.text,.int .i64 x.num,.int .i64 x.line,.int .i64 x.col] 48)) w1.heap.size x from heap_alloc_new w1 _)
 have hsz1:w.heap.size+3≤w1.heap.size:=by rw[←HZ0.out];exact hb1.size
 have HZ1:=Lib.hid (show(w1.alloc (.cells #[.int .i64 x.kind,.string x.text,.int .i64 x.num,.int .i64 x.line,.int .i64 x.col] 48)).heap.size=w1.heap.size+1 by simp)
 clear hb1
 obtain⟨t0,t1,t2,t3,t4⟩:=HT.out.facts
 go_wp2_with fail
 refine(drule_any x.text _).mono ?_
 rintro en w2 ⟨rfl,hw⟩
 rw[hw]
 clear hw
 replace HKK:=Lib.hid (show kindN x.text=5 by rw[←HX.out];exact HKK.out)
 have hkb: (x.kind !=2)=false:=by rw[←HX.out,HK.out];rfl
 rw[HKK.out,show ruleF 5=Value.func (.func 41) #[] #[] from rfl]
 have hlo:-9223372036854775808≤i:=by omega
 have hhi:i≤2000000:=by have:=HTL.out;omega
 have hnil:∀ W:World,Sem.run Tryz.prog (binOp .eql 55 (.func (.func 41) #[] #[]) .nilFunc) W=.ok (.bool false) W:=fun W=>by rfl
 clear hTl hin
 obtain⟨_,c1,c2,_,c4,c5,_,_,_,_,_,_,_,_,_,_,_⟩:=HS1.out.rd.facts
 obtain⟨_,f1,f2,_,f4,f5,_,_,_,_,_,_,_,_,_,_,_⟩:=HS1.out.rd.free
 go_upto_region 7 with fail
 go_cut [] (fun wx=>Hid (OneS w wx w.heap.size (.slice ad T.length cap) (.slice none 0 0) (.slice none 0 0) T ⟨i,{ noSt with kind:=5,line:=x.line,col:=x.col },0,0,0⟩))
 case first=>
  go_region
  all_goals
   go_wp2_with fail
   go_meet
   first
   | exact Lib.hid (OneS.drew (HS1.out.next ((((DT.of_rd HS1.out.rd).setKind 5).setLine x.line).setCol x.col)))
   | exact Lib.hid (OneS.drew (HS1.out.next ((((DT.of_rd HS1.out.rd).setLine x.line).setCol x.col).setKind 5)))
 have HS7:=hcut
 clear hcut c1 c2 c4 c5 f1 f2 f4 f5 t0 t1 t2 t3 t4
 obtain⟨_,c1,_,_,_,_,_,_,_,_,_,_,_,_,_,_,_⟩:=HS7.out.rd.facts
 obtain⟨_,f1,_,_,_,_,_,_,_,_,_,_,_,_,_,_,_⟩:=HS7.out.rd.free
 have HS8:=Lib.hid (HS7.out.next ((DT.of_rd HS7.out.rd).setI (i+1)))
 have he8: (⟨i+1,{ noSt with kind:=5,line:=x.line,col:=x.col },0,0,0⟩:RS)=startD T i:=by unfold startD;rw[HX.out,HKK.out]
 unfold Hid at HS8
 rw[show({ (⟨i,{ noSt with kind:=5,line:=x.line,col:=x.col },0,0,0⟩:RS) with i:=i+1 })=startD T i from he8] at HS8
 replace HS8:=Lib.hid HS8
 clear he8
 go_wp2_with fail
 refine(devent_any HS8.out.rd rfl HS8.out.size HI8.out).mono ?_
 obtain⟨r3,hr3⟩:∃ q,eventD T (startD T i)=q:=⟨_,rfl⟩
 unfold Hid at HO HIJ
 rw[hr3] at HO HIJ ⊢
 replace HO:=Lib.hid HO
 replace HIJ:=Lib.hid HIJ
 rintro en w4 ⟨rfl,nv,hc⟩
 obtain⟨ad5,cap5,hv5⟩:=owns_len hc.rd.nm
 obtain⟨n5,hn5⟩:∃ n,r3.x.names.length=n:=⟨_,rfl⟩
 rw[hn5] at hv5
 clear hn5
 subst hv5
 have HS9:=Lib.hid (HS8.out.next hc)
 clear hc hr3 HS8 HS7 HS1 c1 f1
 go_wp2_with fail
 refine(dneed_any HS9.out.rd HS9.out.size 4 sSemi (bndD HIJ.out HTL.out).1 (bndD HIJ.out HTL.out).2).mono ?_
 obtain⟨r4,hr4⟩:∃ q,needD T 4 sSemi r3=q:=⟨_,rfl⟩
 unfold Hid at HO
 rw[hr4] at HO ⊢
 replace HO:=Lib.hid HO
 rintro en w5 ⟨rfl,hc⟩
 have HS10:=Lib.hid (HS9.out.next hc)
 clear hc hr4 HS9
 go_wp2_with fail
 refine(dwell_any HS10.out.rd).mono ?_
 rintro en w6 ⟨rfl,hw⟩
 rw[hw]
 clear hw
 obtain⟨c0,c1,c2,c3,c4,c5,c6,c7,c8,c9,c10,c11,c12,c13,c14,c15,c16⟩:=HS10.out.rd.facts
 obtain⟨a0,a1,a2,a3,a4,a5,a6,a7,a8,a9,a10,a11⟩:=HS10.out.st.facts
 obtain⟨b0,b1,b2,b3,b4,b5,b6,b7,b8,b9,b10,b11⟩:=HS10.out.st.free
 obtain⟨d0,d1,d2⟩:=HS10.out.ft.facts
 obtain⟨g0,g1,g2⟩:=HS10.out.ft.free
 by_cases h0:r4.er=0
 · replace HO:=Lib.hid (HO.out.trans (if_pos h0))
   rw[decide_eq_true h0]
   have HBD:=Lib.hid HS10.out.good.out
   clear h0 c14 c15 c16
   go_wp2
   go_region
   go_wp2
   refine bodyPost_ret (one_results HBD.out.1.drew HBD.out.2.1.drew r4.i rfl rfl rfl) rfl ?_
   rw[HO.out]
   exact⟨_,_,rfl,HBD.out.2.2.1.drew,HBD.out.2.2.2.1.drew,HBD.out.2.2.2.2.drew⟩
 · replace HO:=Lib.hid (HO.out.trans (if_neg h0))
   rw[decide_eq_false h0]
   have HBD:=Lib.hid (HS10.out.bad r4.er r4.line r4.col).out
   clear h0
   go_wp2
   go_region
   go_wp2
   refine bodyPost_ret (one_results HBD.out.1.drew HBD.out.2.1.drew 0 rfl rfl rfl) rfl ?_
   rw[HO.out]
   exact⟨rfl,HBD.out.2.2.drew⟩
end Go.Proofs.YthlofmnmacpogaaGreatDoor
namespace Go.Proofs.YthlofmnmacpogaaGreatDoor
open Go.RowKit
set_option maxRecDepth 100000 in
set_option maxHeartbeats 8000000 in
theorem one_guard {w:World} {lv:Value} {T:List Tk} (h:TkIn w w.heap.size lv T) (i:Int) (hk: (tkAt T i).kind=2) (hkk:kindN (tkAt T i).text=6) :
 Calls Tryz.prog 11 #[lv,.int .i64 i] w fun e w'=>OnePost w (oneD T i) e w':=by
 have hin:0≤i∧i < (T.length:Int):=tk_in (by rw[hk];decide)
 have hTl:T.length≤1000000:=by obtain⟨_,_,_,hl,_⟩:=h;exact hl
 have HTL:=Lib.hid hTl
 have HI8:=Lib.hid (show InD T (startD T i) from⟨show 0≤i+1 by omega,show i+1≤(T.length:Int) by omega⟩)
 have HO:=Lib.hid (show oneD T i=if(needD T 4 sSemi (guardD T (startD T i))).er=0 then .ok (needD T 4 sSemi (guardD T (startD T i))).x (needD T 4 sSemi (guardD T (startD T i))).i else .bad (needD T 4 sSemi (guardD T (startD T i))).er (needD T 4 sSemi (guardD T (startD T i))).line (needD T 4 sSemi (guardD T (startD T i))).col by unfold oneD;rw[hkk,if_neg (by rw[hk];decide)];rfl)
 have HIJ:=Lib.hid (show InD T (guardD T (startD T i)) from inD_guard HI8.out)
 have HKK:=Lib.hid hkk
 have HK:=Lib.hid hk
 clear hkk hk
 have HS0:=Lib.hid (OneS.start h i)
 have hsz0: (((w.alloc (.cells #[.int .i64 0,.string ⟨#[]⟩,.int .i64 0,.int .i64 0,.int .i64 0,.slice none 0 0,.string ⟨#[]⟩,.string ⟨#[]⟩,.string ⟨#[]⟩,.int .i64 0,.slice none 0 0,.bool false] 37)).alloc (.cells #[.int .i64 0,.int .i64 0,.int .i64 0] 28)).alloc (.cells #[lv,.int .i64 i,.int .i64 0,.string ⟨#[]⟩,.int .i64 0,.int .i64 0,.int .i64 0,.slice none 0 0,.string ⟨#[]⟩,.string ⟨#[]⟩,.string ⟨#[]⟩,.int .i64 0,.slice none 0 0,.bool false,.int .i64 0,.int .i64 0,.int .i64 0] 53)).heap.size=w.heap.size+3:=by simp
 have HZ0:=Lib.hid hsz0
 obtain⟨x,hx⟩:∃ x,tkAt T i=x:=⟨_,rfl⟩
 have HX:=Lib.hid hx
 obtain⟨ad,cap,rfl,-,-⟩:=h
 clear hx hsz0
 go_enter Tryz.func11,Tryz.ntmps11
 go_wp2_with fail
 refine(dnow_any HS0.out.rd).mono ?_
 rintro en w1 ⟨rfl,hb1⟩
 rw[show tkAt T (rs0 i).i=x from HX.out]
 unfold tokV
 have HS1:=Lib.hid ((HS0.out.then hb1).alloc (.cells #[.int .i64 x.kind,.string x.text,.int .i64 x.num,.int .i64 x.line,.int .i64 x.col] 48))
 have HT:=Lib.hid (show TkB (w1.alloc (.cells #[.int .i64 x.kind,.string x.text,.int .i64 x.num,.int .i64 x.line,.int .i64 x.col] 48)) w1.heap.size x from heap_alloc_new w1 _)
 have hsz1:w.heap.size+3≤w1.heap.size:=by rw[←HZ0.out];exact hb1.size
 have HZ1:=Lib.hid (show(w1.alloc (.cells #[.int .i64 x.kind,.string x.text,.int .i64 x.num,.int .i64 x.line,.int .i64 x.col] 48)).heap.size=w1.heap.size+1 by simp)
 clear hb1
 obtain⟨t0,t1,t2,t3,t4⟩:=HT.out.facts
 go_wp2_with fail
 refine(drule_any x.text _).mono ?_
 rintro en w2 ⟨rfl,hw⟩
 rw[hw]
 clear hw
 replace HKK:=Lib.hid (show kindN x.text=6 by rw[←HX.out];exact HKK.out)
 have hkb: (x.kind !=2)=false:=by rw[←HX.out,HK.out];rfl
 rw[HKK.out,show ruleF 6=Value.func (.func 42) #[] #[] from rfl]
 have hlo:-9223372036854775808≤i:=by omega
 have hhi:i≤2000000:=by have:=HTL.out;omega
 have hnil:∀ W:World,Sem.run Tryz.prog (binOp .eql 55 (.func (.func 42) #[] #[]) .nilFunc) W=.ok (.bool false) W:=fun W=>by rfl
 clear hTl hin
 obtain⟨_,c1,c2,_,c4,c5,_,_,_,_,_,_,_,_,_,_,_⟩:=HS1.out.rd.facts
 obtain⟨_,f1,f2,_,f4,f5,_,_,_,_,_,_,_,_,_,_,_⟩:=HS1.out.rd.free
 go_upto_region 7 with fail
 go_cut [] (fun wx=>Hid (OneS w wx w.heap.size (.slice ad T.length cap) (.slice none 0 0) (.slice none 0 0) T ⟨i,{ noSt with kind:=6,line:=x.line,col:=x.col },0,0,0⟩))
 case first=>
  go_region
  all_goals
   go_wp2_with fail
   go_meet
   first
   | exact Lib.hid (OneS.drew (HS1.out.next ((((DT.of_rd HS1.out.rd).setKind 6).setLine x.line).setCol x.col)))
   | exact Lib.hid (OneS.drew (HS1.out.next ((((DT.of_rd HS1.out.rd).setLine x.line).setCol x.col).setKind 6)))
 have HS7:=hcut
 clear hcut c1 c2 c4 c5 f1 f2 f4 f5 t0 t1 t2 t3 t4
 obtain⟨_,c1,_,_,_,_,_,_,_,_,_,_,_,_,_,_,_⟩:=HS7.out.rd.facts
 obtain⟨_,f1,_,_,_,_,_,_,_,_,_,_,_,_,_,_,_⟩:=HS7.out.rd.free
 have HS8:=Lib.hid (HS7.out.next ((DT.of_rd HS7.out.rd).setI (i+1)))
 have he8: (⟨i+1,{ noSt with kind:=6,line:=x.line,col:=x.col },0,0,0⟩:RS)=startD T i:=by unfold startD;rw[HX.out,HKK.out]
 unfold Hid at HS8
 rw[show({ (⟨i,{ noSt with kind:=6,line:=x.line,col:=x.col },0,0,0⟩:RS) with i:=i+1 })=startD T i from he8] at HS8
 replace HS8:=Lib.hid HS8
 clear he8
 go_wp2_with fail
 refine(dguard_any HS8.out.rd HS8.out.size HI8.out).mono ?_
 obtain⟨r3,hr3⟩:∃ q,guardD T (startD T i)=q:=⟨_,rfl⟩
 unfold Hid at HO HIJ
 rw[hr3] at HO HIJ ⊢
 replace HO:=Lib.hid HO
 replace HIJ:=Lib.hid HIJ
 rintro en w4 ⟨rfl,iv,hc⟩
 obtain⟨ad5,cap5,hv5⟩:=owns_len hc.rd.it
 obtain⟨n5,hn5⟩:∃ n,r3.x.ifs.length=n:=⟨_,rfl⟩
 rw[hn5] at hv5
 clear hn5
 subst hv5
 have HS9:=Lib.hid (HS8.out.next hc)
 clear hc hr3 HS8 HS7 HS1 c1 f1
 go_wp2_with fail
 refine(dneed_any HS9.out.rd HS9.out.size 4 sSemi (bndD HIJ.out HTL.out).1 (bndD HIJ.out HTL.out).2).mono ?_
 obtain⟨r4,hr4⟩:∃ q,needD T 4 sSemi r3=q:=⟨_,rfl⟩
 unfold Hid at HO
 rw[hr4] at HO ⊢
 replace HO:=Lib.hid HO
 rintro en w5 ⟨rfl,hc⟩
 have HS10:=Lib.hid (HS9.out.next hc)
 clear hc hr4 HS9
 go_wp2_with fail
 refine(dwell_any HS10.out.rd).mono ?_
 rintro en w6 ⟨rfl,hw⟩
 rw[hw]
 clear hw
 obtain⟨c0,c1,c2,c3,c4,c5,c6,c7,c8,c9,c10,c11,c12,c13,c14,c15,c16⟩:=HS10.out.rd.facts
 obtain⟨a0,a1,a2,a3,a4,a5,a6,a7,a8,a9,a10,a11⟩:=HS10.out.st.facts
 obtain⟨b0,b1,b2,b3,b4,b5,b6,b7,b8,b9,b10,b11⟩:=HS10.out.st.free
 obtain⟨d0,d1,d2⟩:=HS10.out.ft.facts
 obtain⟨g0,g1,g2⟩:=HS10.out.ft.free
 by_cases h0:r4.er=0
 · replace HO:=Lib.hid (HO.out.trans (if_pos h0))
   rw[decide_eq_true h0]
   have HBD:=Lib.hid HS10.out.good.out
   clear h0 c14 c15 c16
   go_wp2
   go_region
   go_wp2
   refine bodyPost_ret (one_results HBD.out.1.drew HBD.out.2.1.drew r4.i rfl rfl rfl) rfl ?_
   rw[HO.out]
   exact⟨_,_,rfl,HBD.out.2.2.1.drew,HBD.out.2.2.2.1.drew,HBD.out.2.2.2.2.drew⟩
 · replace HO:=Lib.hid (HO.out.trans (if_neg h0))
   rw[decide_eq_false h0]
   have HBD:=Lib.hid (HS10.out.bad r4.er r4.line r4.col).out
   clear h0
   go_wp2
   go_region
   go_wp2
   refine bodyPost_ret (one_results HBD.out.1.drew HBD.out.2.1.drew 0 rfl rfl rfl) rfl ?_
   rw[HO.out]
   exact⟨rfl,HBD.out.2.2.drew⟩
end Go.Proofs.YthlofmnmacpogaaGreatDoor
namespace Go.Proofs.YthlofmnmacpogaaGreatDoor
open Go.RowKit
set_option maxRecDepth 100000 in
set_option maxHeartbeats 8000000 in
theorem one_mile {w:World} {lv:Value} {T:List Tk} (h:TkIn w w.heap.size lv T) (i:Int) (hk: (tkAt T i).kind=2) (hkk:kindN (tkAt T i).text=7) :
 Calls Tryz.prog 11 #[lv,.int .i64 i] w fun e w'=>OnePost w (oneD T i) e w':=by
 have hin:0≤i∧i < (T.length:Int):=tk_in (by rw[hk];decide)
 have hTl:T.length≤1000000:=by obtain⟨_,_,_,hl,_⟩:=h;exact hl
 have HTL:=Lib.hid hTl
 have HI8:=Lib.hid (show InD T (startD T i) from⟨show 0≤i+1 by omega,show i+1≤(T.length:Int) by omega⟩)
 have HO:=Lib.hid (show oneD T i=if(needD T 4 sSemi (mileD T (startD T i))).er=0 then .ok (needD T 4 sSemi (mileD T (startD T i))).x (needD T 4 sSemi (mileD T (startD T i))).i else .bad (needD T 4 sSemi (mileD T (startD T i))).er (needD T 4 sSemi (mileD T (startD T i))).line (needD T 4 sSemi (mileD T (startD T i))).col by unfold oneD;rw[hkk,if_neg (by rw[hk];decide)];rfl)
 have HIJ:=Lib.hid (show InD T (mileD T (startD T i)) from inD_mile HI8.out)
 have HKK:=Lib.hid hkk
 have HK:=Lib.hid hk
 clear hkk hk
 have HS0:=Lib.hid (OneS.start h i)
 have hsz0: (((w.alloc (.cells #[.int .i64 0,.string ⟨#[]⟩,.int .i64 0,.int .i64 0,.int .i64 0,.slice none 0 0,.string ⟨#[]⟩,.string ⟨#[]⟩,.string ⟨#[]⟩,.int .i64 0,.slice none 0 0,.bool false] 37)).alloc (.cells #[.int .i64 0,.int .i64 0,.int .i64 0] 28)).alloc (.cells #[lv,.int .i64 i,.int .i64 0,.string ⟨#[]⟩,.int .i64 0,.int .i64 0,.int .i64 0,.slice none 0 0,.string ⟨#[]⟩,.string ⟨#[]⟩,.string ⟨#[]⟩,.int .i64 0,.slice none 0 0,.bool false,.int .i64 0,.int .i64 0,.int .i64 0] 53)).heap.size=w.heap.size+3:=by simp
 have HZ0:=Lib.hid hsz0
 obtain⟨x,hx⟩:∃ x,tkAt T i=x:=⟨_,rfl⟩
 have HX:=Lib.hid hx
 obtain⟨ad,cap,rfl,-,-⟩:=h
 clear hx hsz0
 go_enter Tryz.func11,Tryz.ntmps11
 go_wp2_with fail
 refine(dnow_any HS0.out.rd).mono ?_
 rintro en w1 ⟨rfl,hb1⟩
 rw[show tkAt T (rs0 i).i=x from HX.out]
 unfold tokV
 have HS1:=Lib.hid ((HS0.out.then hb1).alloc (.cells #[.int .i64 x.kind,.string x.text,.int .i64 x.num,.int .i64 x.line,.int .i64 x.col] 48))
 have HT:=Lib.hid (show TkB (w1.alloc (.cells #[.int .i64 x.kind,.string x.text,.int .i64 x.num,.int .i64 x.line,.int .i64 x.col] 48)) w1.heap.size x from heap_alloc_new w1 _)
 have hsz1:w.heap.size+3≤w1.heap.size:=by rw[←HZ0.out];exact hb1.size
 have HZ1:=Lib.hid (show(w1.alloc (.cells #[.int .i64 x.kind,.string x.text,.int .i64 x.num,.int .i64 x.line,.int .i64 x.col] 48)).heap.size=w1.heap.size+1 by simp)
 clear hb1
 obtain⟨t0,t1,t2,t3,t4⟩:=HT.out.facts
 go_wp2_with fail
 refine(drule_any x.text _).mono ?_
 rintro en w2 ⟨rfl,hw⟩
 rw[hw]
 clear hw
 replace HKK:=Lib.hid (show kindN x.text=7 by rw[←HX.out];exact HKK.out)
 have hkb: (x.kind !=2)=false:=by rw[←HX.out,HK.out];rfl
 rw[HKK.out,show ruleF 7=Value.func (.func 43) #[] #[] from rfl]
 have hlo:-9223372036854775808≤i:=by omega
 have hhi:i≤2000000:=by have:=HTL.out;omega
 have hnil:∀ W:World,Sem.run Tryz.prog (binOp .eql 55 (.func (.func 43) #[] #[]) .nilFunc) W=.ok (.bool false) W:=fun W=>by rfl
 clear hTl hin
 obtain⟨_,c1,c2,_,c4,c5,_,_,_,_,_,_,_,_,_,_,_⟩:=HS1.out.rd.facts
 obtain⟨_,f1,f2,_,f4,f5,_,_,_,_,_,_,_,_,_,_,_⟩:=HS1.out.rd.free
 go_upto_region 7 with fail
 go_cut [] (fun wx=>Hid (OneS w wx w.heap.size (.slice ad T.length cap) (.slice none 0 0) (.slice none 0 0) T ⟨i,{ noSt with kind:=7,line:=x.line,col:=x.col },0,0,0⟩))
 case first=>
  go_region
  all_goals
   go_wp2_with fail
   go_meet
   first
   | exact Lib.hid (OneS.drew (HS1.out.next ((((DT.of_rd HS1.out.rd).setKind 7).setLine x.line).setCol x.col)))
   | exact Lib.hid (OneS.drew (HS1.out.next ((((DT.of_rd HS1.out.rd).setLine x.line).setCol x.col).setKind 7)))
 have HS7:=hcut
 clear hcut c1 c2 c4 c5 f1 f2 f4 f5 t0 t1 t2 t3 t4
 obtain⟨_,c1,_,_,_,_,_,_,_,_,_,_,_,_,_,_,_⟩:=HS7.out.rd.facts
 obtain⟨_,f1,_,_,_,_,_,_,_,_,_,_,_,_,_,_,_⟩:=HS7.out.rd.free
 have HS8:=Lib.hid (HS7.out.next ((DT.of_rd HS7.out.rd).setI (i+1)))
 have he8: (⟨i+1,{ noSt with kind:=7,line:=x.line,col:=x.col },0,0,0⟩:RS)=startD T i:=by unfold startD;rw[HX.out,HKK.out]
 unfold Hid at HS8
 rw[show({ (⟨i,{ noSt with kind:=7,line:=x.line,col:=x.col },0,0,0⟩:RS) with i:=i+1 })=startD T i from he8] at HS8
 replace HS8:=Lib.hid HS8
 clear he8
 go_wp2_with fail
 refine(dmile_any HS8.out.rd HS8.out.size HI8.out).mono ?_
 obtain⟨r3,hr3⟩:∃ q,mileD T (startD T i)=q:=⟨_,rfl⟩
 unfold Hid at HO HIJ
 rw[hr3] at HO HIJ ⊢
 replace HO:=Lib.hid HO
 replace HIJ:=Lib.hid HIJ
 rintro en w4 ⟨rfl,iv,hc⟩
 obtain⟨ad5,cap5,hv5⟩:=owns_len hc.rd.it
 obtain⟨n5,hn5⟩:∃ n,r3.x.ifs.length=n:=⟨_,rfl⟩
 rw[hn5] at hv5
 clear hn5
 subst hv5
 have HS9:=Lib.hid (HS8.out.next hc)
 clear hc hr3 HS8 HS7 HS1 c1 f1
 go_wp2_with fail
 refine(dneed_any HS9.out.rd HS9.out.size 4 sSemi (bndD HIJ.out HTL.out).1 (bndD HIJ.out HTL.out).2).mono ?_
 obtain⟨r4,hr4⟩:∃ q,needD T 4 sSemi r3=q:=⟨_,rfl⟩
 unfold Hid at HO
 rw[hr4] at HO ⊢
 replace HO:=Lib.hid HO
 rintro en w5 ⟨rfl,hc⟩
 have HS10:=Lib.hid (HS9.out.next hc)
 clear hc hr4 HS9
 go_wp2_with fail
 refine(dwell_any HS10.out.rd).mono ?_
 rintro en w6 ⟨rfl,hw⟩
 rw[hw]
 clear hw
 obtain⟨c0,c1,c2,c3,c4,c5,c6,c7,c8,c9,c10,c11,c12,c13,c14,c15,c16⟩:=HS10.out.rd.facts
 obtain⟨a0,a1,a2,a3,a4,a5,a6,a7,a8,a9,a10,a11⟩:=HS10.out.st.facts
 obtain⟨b0,b1,b2,b3,b4,b5,b6,b7,b8,b9,b10,b11⟩:=HS10.out.st.free
 obtain⟨d0,d1,d2⟩:=HS10.out.ft.facts
 obtain⟨g0,g1,g2⟩:=HS10.out.ft.free
 by_cases h0:r4.er=0
 · replace HO:=Lib.hid (HO.out.trans (if_pos h0))
   rw[decide_eq_true h0]
   have HBD:=Lib.hid HS10.out.good.out
   clear h0 c14 c15 c16
   go_wp2
   go_region
   go_wp2
   refine bodyPost_ret (one_results HBD.out.1.drew HBD.out.2.1.drew r4.i rfl rfl rfl) rfl ?_
   rw[HO.out]
   exact⟨_,_,rfl,HBD.out.2.2.1.drew,HBD.out.2.2.2.1.drew,HBD.out.2.2.2.2.drew⟩
 · replace HO:=Lib.hid (HO.out.trans (if_neg h0))
   rw[decide_eq_false h0]
   have HBD:=Lib.hid (HS10.out.bad r4.er r4.line r4.col).out
   clear h0
   go_wp2
   go_region
   go_wp2
   refine bodyPost_ret (one_results HBD.out.1.drew HBD.out.2.1.drew 0 rfl rfl rfl) rfl ?_
   rw[HO.out]
   exact⟨rfl,HBD.out.2.2.drew⟩
end Go.Proofs.YthlofmnmacpogaaGreatDoor
