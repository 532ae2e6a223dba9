/- A part of a proof of DeclReadsProof. -/
import Derived.Test.YthlofmnmacpogaaGreatDoorRt25
import Derived.Test.YthlofmnmacpogaaGreatDoorRt20
import Derived.Test.YthlofmnmacpogaaGreatDoorRt01
import Derived.KernelRfl
set_option maxRecDepth 100000
set_option maxHeartbeats 40000000
namespace Go.Proofs.YthlofmnmacpogaaGreatDoor
open Go.RowKit
theorem one_stage {w:World} {lv:Value} {T:List Tk} (h:TkIn w w.heap.size lv T) (i:Int) (hk: (tkAt T i).kind=2) (hkk:kindN (tkAt T i).text=4) :
 Calls Tryz.prog 11 #[lv,.int .i64 i] w fun e w'=>OnePost w (oneD T i) e w':=by
 have hin:0≤i∧i < (T.length:Int):=tk_in (by rw[hk];decide)
 have hTl:T.length≤1000000:=by obtain⟨_,_,_,hl,_⟩:=h;exact hl
 have HTL:=Lh hTl
 have HI8:=Lh (show InD T (startD T i) from⟨show 0≤i+1 by omega,show i+1≤(T.length:Int) by omega⟩)
 have HO:=Lh (show oneD T i=if(needD T 4 sSemi (stageD T (startD T i))).er=0 then .ok (needD T 4 sSemi (stageD T (startD T i))).x (needD T 4 sSemi (stageD T (startD T i))).i else .bad (needD T 4 sSemi (stageD T (startD T i))).er (needD T 4 sSemi (stageD T (startD T i))).line (needD T 4 sSemi (stageD T (startD T i))).col by unfold oneD;rw[hkk,if_neg (by rw[hk];decide)];rfl)
 have HIJ:=Lh (show InD T (stageD T (startD T i)) from inD_stage HI8.out)
 have HKK:=Lh hkk
 have HK:=Lh hk
 clear hkk hk
 have HS0:=Lh (OneS.start h i)
 have hsz0: (((w.alloc oB5).alloc oB3).alloc (.cells #[lv,.int .i64 i,.int .i64 0,.string ⟨#[]⟩,.int .i64 0,.int .i64 0,.int .i64 0,.slice none 0 0,.string ⟨#[]⟩,.string ⟨#[]⟩,.string ⟨#[]⟩,.int .i64 0,.slice none 0 0,.bool false,.int .i64 0,.int .i64 0,.int .i64 0] 53)).heap.size=w.heap.size+3:=by simp
 have HZ0:=Lh hsz0
 obtain⟨x,hx⟩:∃ x,tkAt T i=x:=⟨_,rfl⟩
 have HX:=Lh hx
 obtain⟨ad,cap,rfl,-,-⟩:=h
 clear hx hsz0
 go_enter Tryz.func11,Tryz.ntmps11
 go_wp2_with fail
 refine(dnow_any HS0.out.rd).mono ?_
 rintro en w1 ⟨rfl,hb1⟩
 rw[show tkAt T (rs0 i).i=x from HX.out]
 unfold tokV
 have HS1:=Lh ((HS0.out.then hb1).alloc (tO x))
 have HT:=Lh (show TkB (w1.alloc (tO x)) w1.heap.size x from heap_alloc_new w1 _)
 have hsz1:w.heap.size+3≤w1.heap.size:=by rw[←HZ0.out];exact hb1.size
 have HZ1:=Lh (show(w1.alloc (tO x)).heap.size=w1.heap.size+1 by simp)
 clear hb1
 obtain⟨t0,t1,t2,t3,t4⟩:=HT.out.facts
 go_wp2_with fail
 refine(drule_any x.text _).mono ?_
 rintro en w2 ⟨rfl,hw⟩
 rw[hw]
 clear hw
 replace HKK:=Lh (show kindN x.text=4 by rw[←HX.out];exact HKK.out)
 have hkb: (x.kind !=2)=false:=by rw[←HX.out,HK.out];rfl
 rw[HKK.out,show ruleF 4=Value.func (.func 40) #[] #[] from rfl]
 have hlo:-9223372036854775808≤i:=by omega
 have hhi:i≤2000000:=by have:=HTL.out;omega
 have hnil:∀ W:World,Sem.run Tryz.prog (binOp .eql 55 (.func (.func 40) #[] #[]) .nilFunc) W=.ok (.bool false) W:=fun W=>by rfl
 clear hTl hin
 obtain⟨_,c1,c2,_,c4,c5,_,_,_,_,_,_,_,_,_,_,_⟩:=HS1.out.rd.facts
 obtain⟨_,f1,f2,_,f4,f5,_,_,_,_,_,_,_,_,_,_,_⟩:=HS1.out.rd.free
 go_upto_region 7 with fail
 go_cut [] (fun wx=>Hid (OneS w wx w.heap.size (.slice ad T.length cap) (.slice none 0 0) (.slice none 0 0) T ⟨i,{ noSt with kind:=4,line:=x.line,col:=x.col },0,0,0⟩))
 case first=>
  go_region
  all_goals
   go_wp2_with fail
   go_meet
   first
   | exact Lh (OneS.drew (HS1.out.next ((((DT.of_rd HS1.out.rd).setKind 4).setLine x.line).setCol x.col)))
   | exact Lh (OneS.drew (HS1.out.next ((((DT.of_rd HS1.out.rd).setLine x.line).setCol x.col).setKind 4)))
 have HS7:=hcut
 clear hcut c1 c2 c4 c5 f1 f2 f4 f5 t0 t1 t2 t3 t4
 obtain⟨_,c1,_,_,_,_,_,_,_,_,_,_,_,_,_,_,_⟩:=HS7.out.rd.facts
 obtain⟨_,f1,_,_,_,_,_,_,_,_,_,_,_,_,_,_,_⟩:=HS7.out.rd.free
 have HS8:=Lh (HS7.out.next ((DT.of_rd HS7.out.rd).setI (i+1)))
 have he8: (⟨i+1,{ noSt with kind:=4,line:=x.line,col:=x.col },0,0,0⟩:RS)=startD T i:=by unfold startD;rw[HX.out,HKK.out]
 unfold Hid at HS8
 rw[show({ (⟨i,{ noSt with kind:=4,line:=x.line,col:=x.col },0,0,0⟩:RS) with i:=i+1 })=startD T i from he8] at HS8
 replace HS8:=Lh HS8
 clear he8
 go_wp2_with fail
 refine(dstage_any HS8.out.rd HS8.out.size HI8.out).mono ?_
 obtain⟨r3,hr3⟩:∃ q,stageD T (startD T i)=q:=⟨_,rfl⟩
 unfold Hid at HO HIJ
 rw[hr3] at HO HIJ ⊢
 replace HO:=Lh HO
 replace HIJ:=Lh HIJ
 rintro en w4 ⟨rfl,hc⟩
 have HS9:=Lh (HS8.out.next hc)
 clear hc hr3 HS8 HS7 HS1 c1 f1
 go_wp2_with fail
 refine(dneed_any HS9.out.rd HS9.out.size 4 sSemi (bndD HIJ.out HTL.out).1 (bndD HIJ.out HTL.out).2).mono ?_
 obtain⟨r4,hr4⟩:∃ q,needD T 4 sSemi r3=q:=⟨_,rfl⟩
 unfold Hid at HO
 rw[hr4] at HO ⊢
 replace HO:=Lh HO
 rintro en w5 ⟨rfl,hc⟩
 have HS10:=Lh (HS9.out.next hc)
 clear hc hr4 HS9
 go_wp2_with fail
 refine(dwell_any HS10.out.rd).mono ?_
 rintro en w6 ⟨rfl,hw⟩
 rw[hw]
 clear hw
 obtain⟨c0,c1,c2,c3,c4,c5,c6,c7,c8,c9,c10,c11,c12,c13,c14,c15,c16⟩:=HS10.out.rd.facts
 obtain⟨a0,a1,a2,a3,a4,a5,a6,a7,a8,a9,a10,a11⟩:=HS10.out.st.facts
 obtain⟨b0,b1,b2,b3,b4,b5,b6,b7,b8,b9,b10,b11⟩:=HS10.out.st.free
 obtain⟨d0,d1,d2⟩:=HS10.out.ft.facts
 obtain⟨g0,g1,g2⟩:=HS10.out.ft.free
 by_cases h0:r4.er=0
 · replace HO:=Lh (HO.out.trans (if_pos h0))
   rw[decide_eq_true h0]
   have HBD:=Lh HS10.out.good.out
   clear h0 c14 c15 c16
   go_wp2
   go_region
   go_wp2
   refine bodyPost_ret (one_results HBD.out.1.drew HBD.out.2.1.drew r4.i rfl rfl rfl) rfl ?_
   rw[HO.out]
   exact⟨_,_,rfl,HBD.out.2.2.1.drew,HBD.out.2.2.2.1.drew,HBD.out.2.2.2.2.drew⟩
 · replace HO:=Lh (HO.out.trans (if_neg h0))
   rw[decide_eq_false h0]
   have HBD:=Lh (HS10.out.bad r4.er r4.line r4.col).out
   clear h0
   go_wp2
   go_region
   go_wp2
   refine bodyPost_ret (one_results HBD.out.1.drew HBD.out.2.1.drew 0 rfl rfl rfl) rfl ?_
   rw[HO.out]
   exact⟨rfl,HBD.out.2.2.drew⟩
theorem one_guard {w:World} {lv:Value} {T:List Tk} (h:TkIn w w.heap.size lv T) (i:Int) (hk: (tkAt T i).kind=2) (hkk:kindN (tkAt T i).text=6) :
 Calls Tryz.prog 11 #[lv,.int .i64 i] w fun e w'=>OnePost w (oneD T i) e w':=by
 have hin:0≤i∧i < (T.length:Int):=tk_in (by rw[hk];decide)
 have hTl:T.length≤1000000:=by obtain⟨_,_,_,hl,_⟩:=h;exact hl
 have HTL:=Lh hTl
 have HI8:=Lh (show InD T (startD T i) from⟨show 0≤i+1 by omega,show i+1≤(T.length:Int) by omega⟩)
 have HO:=Lh (show oneD T i=if(needD T 4 sSemi (guardD T (startD T i))).er=0 then .ok (needD T 4 sSemi (guardD T (startD T i))).x (needD T 4 sSemi (guardD T (startD T i))).i else .bad (needD T 4 sSemi (guardD T (startD T i))).er (needD T 4 sSemi (guardD T (startD T i))).line (needD T 4 sSemi (guardD T (startD T i))).col by unfold oneD;rw[hkk,if_neg (by rw[hk];decide)];rfl)
 have HIJ:=Lh (show InD T (guardD T (startD T i)) from inD_guard HI8.out)
 have HKK:=Lh hkk
 have HK:=Lh hk
 clear hkk hk
 have HS0:=Lh (OneS.start h i)
 have hsz0: (((w.alloc oB5).alloc oB3).alloc (.cells #[lv,.int .i64 i,.int .i64 0,.string ⟨#[]⟩,.int .i64 0,.int .i64 0,.int .i64 0,.slice none 0 0,.string ⟨#[]⟩,.string ⟨#[]⟩,.string ⟨#[]⟩,.int .i64 0,.slice none 0 0,.bool false,.int .i64 0,.int .i64 0,.int .i64 0] 53)).heap.size=w.heap.size+3:=by simp
 have HZ0:=Lh hsz0
 obtain⟨x,hx⟩:∃ x,tkAt T i=x:=⟨_,rfl⟩
 have HX:=Lh hx
 obtain⟨ad,cap,rfl,-,-⟩:=h
 clear hx hsz0
 go_enter Tryz.func11,Tryz.ntmps11
 go_wp2_with fail
 refine(dnow_any HS0.out.rd).mono ?_
 rintro en w1 ⟨rfl,hb1⟩
 rw[show tkAt T (rs0 i).i=x from HX.out]
 unfold tokV
 have HS1:=Lh ((HS0.out.then hb1).alloc (tO x))
 have HT:=Lh (show TkB (w1.alloc (tO x)) w1.heap.size x from heap_alloc_new w1 _)
 have hsz1:w.heap.size+3≤w1.heap.size:=by rw[←HZ0.out];exact hb1.size
 have HZ1:=Lh (show(w1.alloc (tO x)).heap.size=w1.heap.size+1 by simp)
 clear hb1
 obtain⟨t0,t1,t2,t3,t4⟩:=HT.out.facts
 go_wp2_with fail
 refine(drule_any x.text _).mono ?_
 rintro en w2 ⟨rfl,hw⟩
 rw[hw]
 clear hw
 replace HKK:=Lh (show kindN x.text=6 by rw[←HX.out];exact HKK.out)
 have hkb: (x.kind !=2)=false:=by rw[←HX.out,HK.out];rfl
 rw[HKK.out,show ruleF 6=Value.func (.func 42) #[] #[] from rfl]
 have hlo:-9223372036854775808≤i:=by omega
 have hhi:i≤2000000:=by have:=HTL.out;omega
 have hnil:∀ W:World,Sem.run Tryz.prog (binOp .eql 55 (.func (.func 42) #[] #[]) .nilFunc) W=.ok (.bool false) W:=fun W=>by rfl
 clear hTl hin
 obtain⟨_,c1,c2,_,c4,c5,_,_,_,_,_,_,_,_,_,_,_⟩:=HS1.out.rd.facts
 obtain⟨_,f1,f2,_,f4,f5,_,_,_,_,_,_,_,_,_,_,_⟩:=HS1.out.rd.free
 go_upto_region 7 with fail
 go_cut [] (fun wx=>Hid (OneS w wx w.heap.size (.slice ad T.length cap) (.slice none 0 0) (.slice none 0 0) T ⟨i,{ noSt with kind:=6,line:=x.line,col:=x.col },0,0,0⟩))
 case first=>
  go_region
  all_goals
   go_wp2_with fail
   go_meet
   first
   | exact Lh (OneS.drew (HS1.out.next ((((DT.of_rd HS1.out.rd).setKind 6).setLine x.line).setCol x.col)))
   | exact Lh (OneS.drew (HS1.out.next ((((DT.of_rd HS1.out.rd).setLine x.line).setCol x.col).setKind 6)))
 have HS7:=hcut
 clear hcut c1 c2 c4 c5 f1 f2 f4 f5 t0 t1 t2 t3 t4
 obtain⟨_,c1,_,_,_,_,_,_,_,_,_,_,_,_,_,_,_⟩:=HS7.out.rd.facts
 obtain⟨_,f1,_,_,_,_,_,_,_,_,_,_,_,_,_,_,_⟩:=HS7.out.rd.free
 have HS8:=Lh (HS7.out.next ((DT.of_rd HS7.out.rd).setI (i+1)))
 have he8: (⟨i+1,{ noSt with kind:=6,line:=x.line,col:=x.col },0,0,0⟩:RS)=startD T i:=by unfold startD;rw[HX.out,HKK.out]
 unfold Hid at HS8
 rw[show({ (⟨i,{ noSt with kind:=6,line:=x.line,col:=x.col },0,0,0⟩:RS) with i:=i+1 })=startD T i from he8] at HS8
 replace HS8:=Lh HS8
 clear he8
 go_wp2_with fail
 refine(dguard_any HS8.out.rd HS8.out.size HI8.out).mono ?_
 obtain⟨r3,hr3⟩:∃ q,guardD T (startD T i)=q:=⟨_,rfl⟩
 unfold Hid at HO HIJ
 rw[hr3] at HO HIJ ⊢
 replace HO:=Lh HO
 replace HIJ:=Lh HIJ
 rintro en w4 ⟨rfl,iv,hc⟩
 obtain⟨ad5,cap5,hv5⟩:=owns_len hc.rd.it
 obtain⟨n5,hn5⟩:∃ n,r3.x.ifs.length=n:=⟨_,rfl⟩
 rw[hn5] at hv5
 clear hn5
 subst hv5
 have HS9:=Lh (HS8.out.next hc)
 clear hc hr3 HS8 HS7 HS1 c1 f1
 go_wp2_with fail
 refine(dneed_any HS9.out.rd HS9.out.size 4 sSemi (bndD HIJ.out HTL.out).1 (bndD HIJ.out HTL.out).2).mono ?_
 obtain⟨r4,hr4⟩:∃ q,needD T 4 sSemi r3=q:=⟨_,rfl⟩
 unfold Hid at HO
 rw[hr4] at HO ⊢
 replace HO:=Lh HO
 rintro en w5 ⟨rfl,hc⟩
 have HS10:=Lh (HS9.out.next hc)
 clear hc hr4 HS9
 go_wp2_with fail
 refine(dwell_any HS10.out.rd).mono ?_
 rintro en w6 ⟨rfl,hw⟩
 rw[hw]
 clear hw
 obtain⟨c0,c1,c2,c3,c4,c5,c6,c7,c8,c9,c10,c11,c12,c13,c14,c15,c16⟩:=HS10.out.rd.facts
 obtain⟨a0,a1,a2,a3,a4,a5,a6,a7,a8,a9,a10,a11⟩:=HS10.out.st.facts
 obtain⟨b0,b1,b2,b3,b4,b5,b6,b7,b8,b9,b10,b11⟩:=HS10.out.st.free
 obtain⟨d0,d1,d2⟩:=HS10.out.ft.facts
 obtain⟨g0,g1,g2⟩:=HS10.out.ft.free
 by_cases h0:r4.er=0
 · replace HO:=Lh (HO.out.trans (if_pos h0))
   rw[decide_eq_true h0]
   have HBD:=Lh HS10.out.good.out
   clear h0 c14 c15 c16
   go_wp2
   go_region
   go_wp2
   refine bodyPost_ret (one_results HBD.out.1.drew HBD.out.2.1.drew r4.i rfl rfl rfl) rfl ?_
   rw[HO.out]
   exact⟨_,_,rfl,HBD.out.2.2.1.drew,HBD.out.2.2.2.1.drew,HBD.out.2.2.2.2.drew⟩
 · replace HO:=Lh (HO.out.trans (if_neg h0))
   rw[decide_eq_false h0]
   have HBD:=Lh (HS10.out.bad r4.er r4.line r4.col).out
   clear h0
   go_wp2
   go_region
   go_wp2
   refine bodyPost_ret (one_results HBD.out.1.drew HBD.out.2.1.drew 0 rfl rfl rfl) rfl ?_
   rw[HO.out]
   exact⟨rfl,HBD.out.2.2.drew⟩
theorem one_mile {w:World} {lv:Value} {T:List Tk} (h:TkIn w w.heap.size lv T) (i:Int) (hk: (tkAt T i).kind=2) (hkk:kindN (tkAt T i).text=7) :
 Calls Tryz.prog 11 #[lv,.int .i64 i] w fun e w'=>OnePost w (oneD T i) e w':=by
 have hin:0≤i∧i < (T.length:Int):=tk_in (by rw[hk];decide)
 have hTl:T.length≤1000000:=by obtain⟨_,_,_,hl,_⟩:=h;exact hl
 have HTL:=Lh hTl
 have HI8:=Lh (show InD T (startD T i) from⟨show 0≤i+1 by omega,show i+1≤(T.length:Int) by omega⟩)
 have HO:=Lh (show oneD T i=if(needD T 4 sSemi (mileD T (startD T i))).er=0 then .ok (needD T 4 sSemi (mileD T (startD T i))).x (needD T 4 sSemi (mileD T (startD T i))).i else .bad (needD T 4 sSemi (mileD T (startD T i))).er (needD T 4 sSemi (mileD T (startD T i))).line (needD T 4 sSemi (mileD T (startD T i))).col by unfold oneD;rw[hkk,if_neg (by rw[hk];decide)];rfl)
 have HIJ:=Lh (show InD T (mileD T (startD T i)) from inD_mile HI8.out)
 have HKK:=Lh hkk
 have HK:=Lh hk
 clear hkk hk
 have HS0:=Lh (OneS.start h i)
 have hsz0: (((w.alloc oB5).alloc oB3).alloc (.cells #[lv,.int .i64 i,.int .i64 0,.string ⟨#[]⟩,.int .i64 0,.int .i64 0,.int .i64 0,.slice none 0 0,.string ⟨#[]⟩,.string ⟨#[]⟩,.string ⟨#[]⟩,.int .i64 0,.slice none 0 0,.bool false,.int .i64 0,.int .i64 0,.int .i64 0] 53)).heap.size=w.heap.size+3:=by simp
 have HZ0:=Lh hsz0
 obtain⟨x,hx⟩:∃ x,tkAt T i=x:=⟨_,rfl⟩
 have HX:=Lh hx
 obtain⟨ad,cap,rfl,-,-⟩:=h
 clear hx hsz0
 go_enter Tryz.func11,Tryz.ntmps11
 go_wp2_with fail
 refine(dnow_any HS0.out.rd).mono ?_
 rintro en w1 ⟨rfl,hb1⟩
 rw[show tkAt T (rs0 i).i=x from HX.out]
 unfold tokV
 have HS1:=Lh ((HS0.out.then hb1).alloc (tO x))
 have HT:=Lh (show TkB (w1.alloc (tO x)) w1.heap.size x from heap_alloc_new w1 _)
 have hsz1:w.heap.size+3≤w1.heap.size:=by rw[←HZ0.out];exact hb1.size
 have HZ1:=Lh (show(w1.alloc (tO x)).heap.size=w1.heap.size+1 by simp)
 clear hb1
 obtain⟨t0,t1,t2,t3,t4⟩:=HT.out.facts
 go_wp2_with fail
 refine(drule_any x.text _).mono ?_
 rintro en w2 ⟨rfl,hw⟩
 rw[hw]
 clear hw
 replace HKK:=Lh (show kindN x.text=7 by rw[←HX.out];exact HKK.out)
 have hkb: (x.kind !=2)=false:=by rw[←HX.out,HK.out];rfl
 rw[HKK.out,show ruleF 7=Value.func (.func 43) #[] #[] from rfl]
 have hlo:-9223372036854775808≤i:=by omega
 have hhi:i≤2000000:=by have:=HTL.out;omega
 have hnil:∀ W:World,Sem.run Tryz.prog (binOp .eql 55 (.func (.func 43) #[] #[]) .nilFunc) W=.ok (.bool false) W:=fun W=>by rfl
 clear hTl hin
 obtain⟨_,c1,c2,_,c4,c5,_,_,_,_,_,_,_,_,_,_,_⟩:=HS1.out.rd.facts
 obtain⟨_,f1,f2,_,f4,f5,_,_,_,_,_,_,_,_,_,_,_⟩:=HS1.out.rd.free
 go_upto_region 7 with fail
 go_cut [] (fun wx=>Hid (OneS w wx w.heap.size (.slice ad T.length cap) (.slice none 0 0) (.slice none 0 0) T ⟨i,{ noSt with kind:=7,line:=x.line,col:=x.col },0,0,0⟩))
 case first=>
  go_region
  all_goals
   go_wp2_with fail
   go_meet
   first
   | exact Lh (OneS.drew (HS1.out.next ((((DT.of_rd HS1.out.rd).setKind 7).setLine x.line).setCol x.col)))
   | exact Lh (OneS.drew (HS1.out.next ((((DT.of_rd HS1.out.rd).setLine x.line).setCol x.col).setKind 7)))
 have HS7:=hcut
 clear hcut c1 c2 c4 c5 f1 f2 f4 f5 t0 t1 t2 t3 t4
 obtain⟨_,c1,_,_,_,_,_,_,_,_,_,_,_,_,_,_,_⟩:=HS7.out.rd.facts
 obtain⟨_,f1,_,_,_,_,_,_,_,_,_,_,_,_,_,_,_⟩:=HS7.out.rd.free
 have HS8:=Lh (HS7.out.next ((DT.of_rd HS7.out.rd).setI (i+1)))
 have he8: (⟨i+1,{ noSt with kind:=7,line:=x.line,col:=x.col },0,0,0⟩:RS)=startD T i:=by unfold startD;rw[HX.out,HKK.out]
 unfold Hid at HS8
 rw[show({ (⟨i,{ noSt with kind:=7,line:=x.line,col:=x.col },0,0,0⟩:RS) with i:=i+1 })=startD T i from he8] at HS8
 replace HS8:=Lh HS8
 clear he8
 go_wp2_with fail
 refine(dmile_any HS8.out.rd HS8.out.size HI8.out).mono ?_
 obtain⟨r3,hr3⟩:∃ q,mileD T (startD T i)=q:=⟨_,rfl⟩
 unfold Hid at HO HIJ
 rw[hr3] at HO HIJ ⊢
 replace HO:=Lh HO
 replace HIJ:=Lh HIJ
 rintro en w4 ⟨rfl,iv,hc⟩
 obtain⟨ad5,cap5,hv5⟩:=owns_len hc.rd.it
 obtain⟨n5,hn5⟩:∃ n,r3.x.ifs.length=n:=⟨_,rfl⟩
 rw[hn5] at hv5
 clear hn5
 subst hv5
 have HS9:=Lh (HS8.out.next hc)
 clear hc hr3 HS8 HS7 HS1 c1 f1
 go_wp2_with fail
 refine(dneed_any HS9.out.rd HS9.out.size 4 sSemi (bndD HIJ.out HTL.out).1 (bndD HIJ.out HTL.out).2).mono ?_
 obtain⟨r4,hr4⟩:∃ q,needD T 4 sSemi r3=q:=⟨_,rfl⟩
 unfold Hid at HO
 rw[hr4] at HO ⊢
 replace HO:=Lh HO
 rintro en w5 ⟨rfl,hc⟩
 have HS10:=Lh (HS9.out.next hc)
 clear hc hr4 HS9
 go_wp2_with fail
 refine(dwell_any HS10.out.rd).mono ?_
 rintro en w6 ⟨rfl,hw⟩
 rw[hw]
 clear hw
 obtain⟨c0,c1,c2,c3,c4,c5,c6,c7,c8,c9,c10,c11,c12,c13,c14,c15,c16⟩:=HS10.out.rd.facts
 obtain⟨a0,a1,a2,a3,a4,a5,a6,a7,a8,a9,a10,a11⟩:=HS10.out.st.facts
 obtain⟨b0,b1,b2,b3,b4,b5,b6,b7,b8,b9,b10,b11⟩:=HS10.out.st.free
 obtain⟨d0,d1,d2⟩:=HS10.out.ft.facts
 obtain⟨g0,g1,g2⟩:=HS10.out.ft.free
 by_cases h0:r4.er=0
 · replace HO:=Lh (HO.out.trans (if_pos h0))
   rw[decide_eq_true h0]
   have HBD:=Lh HS10.out.good.out
   clear h0 c14 c15 c16
   go_wp2
   go_region
   go_wp2
   refine bodyPost_ret (one_results HBD.out.1.drew HBD.out.2.1.drew r4.i rfl rfl rfl) rfl ?_
   rw[HO.out]
   exact⟨_,_,rfl,HBD.out.2.2.1.drew,HBD.out.2.2.2.1.drew,HBD.out.2.2.2.2.drew⟩
 · replace HO:=Lh (HO.out.trans (if_neg h0))
   rw[decide_eq_false h0]
   have HBD:=Lh (HS10.out.bad r4.er r4.line r4.col).out
   clear h0
   go_wp2
   go_region
   go_wp2
   refine bodyPost_ret (one_results HBD.out.1.drew HBD.out.2.1.drew 0 rfl rfl rfl) rfl ?_
   rw[HO.out]
   exact⟨rfl,HBD.out.2.2.drew⟩
theorem one_sod {w:World} {lv:Value} {T:List Tk} (h:TkIn w w.heap.size lv T) (i:Int) (hk: (tkAt T i).kind=2) (hkk:kindN (tkAt T i).text=8) :
 Calls Tryz.prog 11 #[lv,.int .i64 i] w fun e w'=>OnePost w (oneD T i) e w':=by
 have hin:0≤i∧i < (T.length:Int):=tk_in (by rw[hk];decide)
 have hTl:T.length≤1000000:=by obtain⟨_,_,_,hl,_⟩:=h;exact hl
 have HTL:=Lh hTl
 have HI8:=Lh (show InD T (startD T i) from⟨show 0≤i+1 by omega,show i+1≤(T.length:Int) by omega⟩)
 have HO:=Lh (show oneD T i=if(needD T 4 sSemi (sodD T (startD T i))).er=0 then .ok (needD T 4 sSemi (sodD T (startD T i))).x (needD T 4 sSemi (sodD T (startD T i))).i else .bad (needD T 4 sSemi (sodD T (startD T i))).er (needD T 4 sSemi (sodD T (startD T i))).line (needD T 4 sSemi (sodD T (startD T i))).col by unfold oneD;rw[hkk,if_neg (by rw[hk];decide)];rfl)
 have HIJ:=Lh (show InD T (sodD T (startD T i)) from inD_sod HI8.out)
 have HKK:=Lh hkk
 have HK:=Lh hk
 clear hkk hk
 have HS0:=Lh (OneS.start h i)
 have hsz0: (((w.alloc oB5).alloc oB3).alloc (.cells #[lv,.int .i64 i,.int .i64 0,.string ⟨#[]⟩,.int .i64 0,.int .i64 0,.int .i64 0,.slice none 0 0,.string ⟨#[]⟩,.string ⟨#[]⟩,.string ⟨#[]⟩,.int .i64 0,.slice none 0 0,.bool false,.int .i64 0,.int .i64 0,.int .i64 0] 53)).heap.size=w.heap.size+3:=by simp
 have HZ0:=Lh hsz0
 obtain⟨x,hx⟩:∃ x,tkAt T i=x:=⟨_,rfl⟩
 have HX:=Lh hx
 obtain⟨ad,cap,rfl,-,-⟩:=h
 clear hx hsz0
 go_enter Tryz.func11,Tryz.ntmps11
 go_wp2_with fail
 refine(dnow_any HS0.out.rd).mono ?_
 rintro en w1 ⟨rfl,hb1⟩
 rw[show tkAt T (rs0 i).i=x from HX.out]
 unfold tokV
 have HS1:=Lh ((HS0.out.then hb1).alloc (tO x))
 have HT:=Lh (show TkB (w1.alloc (tO x)) w1.heap.size x from heap_alloc_new w1 _)
 have hsz1:w.heap.size+3≤w1.heap.size:=by rw[←HZ0.out];exact hb1.size
 have HZ1:=Lh (show(w1.alloc (tO x)).heap.size=w1.heap.size+1 by simp)
 clear hb1
 obtain⟨t0,t1,t2,t3,t4⟩:=HT.out.facts
 go_wp2_with fail
 refine(drule_any x.text _).mono ?_
 rintro en w2 ⟨rfl,hw⟩
 rw[hw]
 clear hw
 replace HKK:=Lh (show kindN x.text=8 by rw[←HX.out];exact HKK.out)
 have hkb: (x.kind !=2)=false:=by rw[←HX.out,HK.out];rfl
 rw[HKK.out,show ruleF 8=Value.func (.func 44) #[] #[] from rfl]
 have hlo:-9223372036854775808≤i:=by omega
 have hhi:i≤2000000:=by have:=HTL.out;omega
 have hnil:∀ W:World,Sem.run Tryz.prog (binOp .eql 55 (.func (.func 44) #[] #[]) .nilFunc) W=.ok (.bool false) W:=fun W=>by rfl
 clear hTl hin
 obtain⟨_,c1,c2,_,c4,c5,_,_,_,_,_,_,_,_,_,_,_⟩:=HS1.out.rd.facts
 obtain⟨_,f1,f2,_,f4,f5,_,_,_,_,_,_,_,_,_,_,_⟩:=HS1.out.rd.free
 go_upto_region 7 with fail
 go_cut [] (fun wx=>Hid (OneS w wx w.heap.size (.slice ad T.length cap) (.slice none 0 0) (.slice none 0 0) T ⟨i,{ noSt with kind:=8,line:=x.line,col:=x.col },0,0,0⟩))
 case first=>
  go_region
  all_goals
   go_wp2_with fail
   go_meet
   first
   | exact Lh (OneS.drew (HS1.out.next ((((DT.of_rd HS1.out.rd).setKind 8).setLine x.line).setCol x.col)))
   | exact Lh (OneS.drew (HS1.out.next ((((DT.of_rd HS1.out.rd).setLine x.line).setCol x.col).setKind 8)))
 have HS7:=hcut
 clear hcut c1 c2 c4 c5 f1 f2 f4 f5 t0 t1 t2 t3 t4
 obtain⟨_,c1,_,_,_,_,_,_,_,_,_,_,_,_,_,_,_⟩:=HS7.out.rd.facts
 obtain⟨_,f1,_,_,_,_,_,_,_,_,_,_,_,_,_,_,_⟩:=HS7.out.rd.free
 have HS8:=Lh (HS7.out.next ((DT.of_rd HS7.out.rd).setI (i+1)))
 have he8: (⟨i+1,{ noSt with kind:=8,line:=x.line,col:=x.col },0,0,0⟩:RS)=startD T i:=by unfold startD;rw[HX.out,HKK.out]
 unfold Hid at HS8
 rw[show({ (⟨i,{ noSt with kind:=8,line:=x.line,col:=x.col },0,0,0⟩:RS) with i:=i+1 })=startD T i from he8] at HS8
 replace HS8:=Lh HS8
 clear he8
 go_wp2_with fail
 refine(dsod_any HS8.out.rd HS8.out.size HI8.out).mono ?_
 obtain⟨r3,hr3⟩:∃ q,sodD T (startD T i)=q:=⟨_,rfl⟩
 unfold Hid at HO HIJ
 rw[hr3] at HO HIJ ⊢
 replace HO:=Lh HO
 replace HIJ:=Lh HIJ
 rintro en w4 ⟨rfl,nv,hc⟩
 obtain⟨ad5,cap5,hv5⟩:=owns_len hc.rd.nm
 obtain⟨n5,hn5⟩:∃ n,r3.x.names.length=n:=⟨_,rfl⟩
 rw[hn5] at hv5
 clear hn5
 subst hv5
 have HS9:=Lh (HS8.out.next hc)
 clear hc hr3 HS8 HS7 HS1 c1 f1
 go_wp2_with fail
 refine(dneed_any HS9.out.rd HS9.out.size 4 sSemi (bndD HIJ.out HTL.out).1 (bndD HIJ.out HTL.out).2).mono ?_
 obtain⟨r4,hr4⟩:∃ q,needD T 4 sSemi r3=q:=⟨_,rfl⟩
 unfold Hid at HO
 rw[hr4] at HO ⊢
 replace HO:=Lh HO
 rintro en w5 ⟨rfl,hc⟩
 have HS10:=Lh (HS9.out.next hc)
 clear hc hr4 HS9
 go_wp2_with fail
 refine(dwell_any HS10.out.rd).mono ?_
 rintro en w6 ⟨rfl,hw⟩
 rw[hw]
 clear hw
 obtain⟨c0,c1,c2,c3,c4,c5,c6,c7,c8,c9,c10,c11,c12,c13,c14,c15,c16⟩:=HS10.out.rd.facts
 obtain⟨a0,a1,a2,a3,a4,a5,a6,a7,a8,a9,a10,a11⟩:=HS10.out.st.facts
 obtain⟨b0,b1,b2,b3,b4,b5,b6,b7,b8,b9,b10,b11⟩:=HS10.out.st.free
 obtain⟨d0,d1,d2⟩:=HS10.out.ft.facts
 obtain⟨g0,g1,g2⟩:=HS10.out.ft.free
 by_cases h0:r4.er=0
 · replace HO:=Lh (HO.out.trans (if_pos h0))
   rw[decide_eq_true h0]
   have HBD:=Lh HS10.out.good.out
   clear h0 c14 c15 c16
   go_wp2
   go_region
   go_wp2
   refine bodyPost_ret (one_results HBD.out.1.drew HBD.out.2.1.drew r4.i rfl rfl rfl) rfl ?_
   rw[HO.out]
   exact⟨_,_,rfl,HBD.out.2.2.1.drew,HBD.out.2.2.2.1.drew,HBD.out.2.2.2.2.drew⟩
 · replace HO:=Lh (HO.out.trans (if_neg h0))
   rw[decide_eq_false h0]
   have HBD:=Lh (HS10.out.bad r4.er r4.line r4.col).out
   clear h0
   go_wp2
   go_region
   go_wp2
   refine bodyPost_ret (one_results HBD.out.1.drew HBD.out.2.1.drew 0 rfl rfl rfl) rfl ?_
   rw[HO.out]
   exact⟨rfl,HBD.out.2.2.drew⟩
theorem kindN_in (s:ByteArray):kindN s=0∨kindN s=1∨kindN s=2∨kindN s=3∨kindN s=4∨kindN s=5∨kindN s=6∨kindN s=7∨kindN s=8:=by
 unfold kindN
 split
 · simp
 split
 · simp
 split
 · simp
 split
 · simp
 split
 · simp
 split
 · simp
 split
 · simp
 split
 · simp
 · simp
theorem done_any {w:World} {lv:Value} {T:List Tk} (h:TkIn w w.heap.size lv T) (i:Int) :
 Calls Tryz.prog 11 #[lv,.int .i64 i] w fun e w'=>OnePost w (oneD T i) e w':=by
 by_cases hk: (tkAt T i).kind=2
 · rcases kindN_in (tkAt T i).text with e|e|e|e|e|e|e|e|e
   · exact one_none h i hk e
   · exact one_attr h i hk e
   · exact one_user h i hk e
   · exact one_role h i hk e
   · exact one_stage h i hk e
   · exact one_event h i hk e
   · exact one_guard h i hk e
   · exact one_mile h i hk e
   · exact one_sod h i hk e
 · exact one_kind h i hk
theorem up_attr (T:List Tk) (r:RS):r.i≤(attrD T r).i:=by
 have h1:=take_up T 1 r
 have h2:=need_up T 4 sEq (setName (nameV T r) (nameD T r))
 have h3:=take_up T 3 (needD T 4 sEq (setName (nameV T r) (nameD T r)))
 exact Int.le_trans h1 (Int.le_trans h2 h3)
theorem up_user (T:List Tk) (r:RS):r.i≤(userD T r).i:=take_up T 1 r
theorem up_more (T:List Tk) (r:RS):r.i≤(moreD T r).i:=take_up T 1 r
theorem up_roleL (T:List Tk):∀ (k:Nat) (r:RS),r.i≤(roleL T k r).i
 | 0,_=>Int.le_refl _
 | k+1,r=>by
   rw[roleL]
   split
   · exact Int.le_trans (up_more T r) (up_roleL T k _)
   · exact Int.le_refl _
theorem up_role (T:List Tk) (r:RS):r.i≤(roleD T r).i:=
 Int.le_trans (take_up T 1 r) (Int.le_trans (need_up T 4 sEq (setName (nameV T r) (nameD T r))) (Int.le_trans (up_more T _) (up_roleL T _ _)))
theorem up_stage (T:List Tk) (r:RS):r.i≤(stageD T r).i:=by
 have h1:r.i≤(setName (nameV T r) (nameD T r)).i:=take_up T 1 r
 unfold stageD
 dsimp only
 split
 · exact Int.le_trans h1 (Int.le_trans (may_up T 2 wIn _) (take_up T 1 _))
 · exact h1
theorem up_times (T:List Tk) (r:RS):r.i≤(timesD T r).i:=by
 unfold timesD
 dsimp only
 split
 · exact Int.le_trans (Int.le_of_eq (failD_i T 11 r).1.symm) (take_up T 3 (failD T 11 r))
 · exact take_up T 3 r
theorem up_setsL (T:List Tk):∀ (k:Nat) (r:RS),r.i≤(setsL T k r).i
 | 0,_=>Int.le_refl _
 | k+1,r=>by
   rw[setsL]
   split
   · exact Int.le_trans (may_up T 4 sComma r) (Int.le_trans (up_more T _) (up_setsL T k _))
   · exact Int.le_refl _
theorem up_event (T:List Tk) (r:RS):r.i≤(eventD T r).i:=by
 have h5:r.i≤(evHead T r).i:=by
  obtain⟨r1,e1⟩:∃ q,setName (nameV T r) (nameD T r)=q:=⟨_,rfl⟩
  have u1:r.i≤r1.i:=by rw[←e1];exact take_up T 1 r
  obtain⟨r2,e2⟩:∃ q,needD T 2 wBy r1=q:=⟨_,rfl⟩
  have u2:r1.i≤r2.i:=by rw[←e2];exact need_up T 2 wBy r1
  obtain⟨r3,e3⟩:∃ q,setRole (nameV T r2) (nameD T r2)=q:=⟨_,rfl⟩
  have u3:r2.i≤r3.i:=by rw[←e3];exact take_up T 1 r2
  obtain⟨r4,e4⟩:∃ q,needD T 2 wIn r3=q:=⟨_,rfl⟩
  have u4:r3.i≤r4.i:=by rw[←e4];exact need_up T 2 wIn r3
  have u5:r4.i≤(setStage (nameV T r4) (nameD T r4)).i:=take_up T 1 r4
  have e:evHead T r=setStage (nameV T r4) (nameD T r4):=by simp only[evHead,e1,e2,e3,e4]
  rw[e];omega
 have h6: (evHead T r).i≤(evSets T (evHead T r)).i:=by
  unfold evSets
  split
  · exact Int.le_trans (may_up T 2 wSets _) (Int.le_trans (up_more T _) (up_setsL T _ _))
  · exact Int.le_refl _
 rw[event_is]
 unfold evMax
 split
 · exact Int.le_trans h5 (Int.le_trans h6 (Int.le_trans (may_up T 2 wMax _) (up_times T _)))
 · exact Int.le_trans h5 h6
theorem up_on (T:List Tk) (r:RS):r.i≤(onD T r).i:=by
 unfold onD
 split
 · exact Int.le_trans (may_up T 2 wOn r) (take_up T 1 _)
 · exact Int.le_refl _
theorem up_if (T:List Tk) (r:RS):r.i≤(ifD T r).i:=by
 unfold ifD
 cases hp:readP T false r.i with
 | ok o a=>exact Int.le_of_lt (readD_in hp).2.1
 | bad e l c=>exact Int.le_refl _
theorem up_sentry (T:List Tk) (r:RS):r.i≤(sentryD T r).i:=by
 unfold sentryD
 split
 · exact Int.le_trans (up_on T r) (Int.le_trans (may_up T 2 wIf _) (up_if T _))
 · exact up_on T r
theorem up_guard (T:List Tk) (r:RS):r.i≤(guardD T r).i:=
 Int.le_trans (show r.i≤(setStage (nameV T r) (nameD T r)).i from take_up T 1 r) (up_sentry T _)
theorem up_mile (T:List Tk) (r:RS):r.i≤(mileD T r).i:=by
 obtain⟨r1,e1⟩:∃ q,setName (nameV T r) (nameD T r)=q:=⟨_,rfl⟩
 have u1:r.i≤r1.i:=by rw[←e1];exact take_up T 1 r
 obtain⟨r2,e2⟩:∃ q,needD T 2 wOf r1=q:=⟨_,rfl⟩
 have u2:r1.i≤r2.i:=by rw[←e2];exact need_up T 2 wOf r1
 obtain⟨r3,e3⟩:∃ q,setStage (nameV T r2) (nameD T r2)=q:=⟨_,rfl⟩
 have u3:r2.i≤r3.i:=by rw[←e3];exact take_up T 1 r2
 obtain⟨r4,e4⟩:∃ q,sentryD T r3=q:=⟨_,rfl⟩
 have u4:r3.i≤r4.i:=by rw[←e4];exact up_sentry T r3
 have u5:r4.i≤(setFinal (mayB T 2 wFinal r4) (mayD T 2 wFinal r4)).i:=may_up T 2 wFinal r4
 have e:mileD T r=setFinal (mayB T 2 wFinal r4) (mayD T 2 wFinal r4):=by simp only[mileD,e1,e2,e3,e4]
 rw[e];omega
theorem up_sod (T:List Tk) (r:RS):r.i≤(sodD T r).i:=
 Int.le_trans (take_up T 1 r) (Int.le_trans (need_up T 4 sComma (nameD T r)) (take_up T 1 _))
theorem up_rule (T:List Tk) (k:Int) (r:RS):r.i≤(ruleD T k r).i:=by
 unfold ruleD
 split
 · exact up_attr T r
 split
 · exact up_user T r
 split
 · exact up_role T r
 split
 · exact up_stage T r
 split
 · exact up_event T r
 split
 · exact up_guard T r
 split
 · exact up_mile T r
 · exact up_sod T r
theorem failD_no {T:List Tk} {r:RS}: (failD T 4 r).er≠0:=failD_er T (by decide) r
theorem oneD_ok {T:List Tk} {i:Int} {x:St} {a:Int} (h:oneD T i=.ok x a):0≤i∧i+2≤a∧a < T.length+1∧(tkAt T (a - 1)).kind≠5:=by
 unfold oneD at h
 split at h
 · cases h
 · rename_i hn
   have hin:0≤i∧i < (T.length:Int):=tk_in (fun e=>hn (.inl (by rw[e];decide)))
   obtain⟨r,hr⟩:∃ r,ruleD T (kindN (tkAt T i).text) (startD T i)=r:=⟨_,rfl⟩
   have hup:i+1≤r.i:=by have:=up_rule T (kindN (tkAt T i).text) (startD T i);rw[hr] at this;exact this
   dsimp only at h
   rw[hr] at h
   split at h
   · rename_i he
     injection h with _ ha
     unfold needD at he ha
     split at ha
     · rename_i hm
       have hk:=isTk_in (mayB_is hm).2 (by decide)
       have hkk:=(mayB_is hm).2
       unfold isTk at hkk
       simp only[Bool.and_eq_true,decide_eq_true_eq] at hkk
       have ha':r.i+1=a:=ha
       refine⟨hin.1,by omega,by omega,?_⟩
       rw[show a - 1=r.i by omega,hkk.1]
       decide
     · rename_i hm
       rw[if_neg hm] at he
       exact absurd he failD_no
   · cases h
theorem oneD_bad {T:List Tk} {i:Int} {e l c:Int} (h:oneD T i=.bad e l c):e≠0:=by
 unfold oneD at h
 split at h
 · injection h with h1 h2 h3;omega
 · dsimp only at h
   split at h
   · cases h
   · rename_i hn
     injection h with h1 h2 h3
     rw[←h1];exact hn
abbrev Sv:=St × Value × Value
def svCells (e:Sv):List Value:=[.int .i64 e.1.kind,.string e.1.name,.int .i64 e.1.line,.int .i64 e.1.col,.int .i64 e.1.init,e.2.1,.string e.1.role,.string e.1.stage,.string e.1.event,.int .i64 e.1.times,e.2.2,.bool e.1.final]
def svFlat (l:List Sv):List Value:=(l.map svCells).flatten
theorem svFlat_snoc (l:List Sv) (e:Sv):svFlat (l ++ [e])=svFlat l ++svCells e:=by simp[svFlat]
structure StRow (w:World) (B:Nat) (v:Value) (l:List Sv):Prop where
 row:w.ownsRow B 37 12 v l.length (svFlat l)
 nm:∀ e ∈ l,w.ownsRow B 9 1 e.2.1 e.1.names.length (strV e.1.names)
 it:∀ e ∈ l,w.ownsRow B 87 9 e.2.2 e.1.ifs.length (itFlat e.1.ifs)
theorem StRow.nil (w:World) (B:Nat):StRow w B (.slice none 0 0) []:=
 ⟨World.ownsRow_nil _ _ _ _,fun e h=>by simp at h,fun e h=>by simp at h⟩
theorem StRow.below {w w':World} {B:Nat} {v:Value} {l:List Sv} (h:StRow w B v l) (hb:Below w.heap.size w w'):StRow w' B v l:=
 ⟨owns_below h.row hb,fun e he=>owns_below (h.nm e he) hb,fun e he=>owns_below (h.it e he) hb⟩
theorem StRow.fault {w:World} {B b:Nat} {v:Value} {l:List Sv} {e l0 c:Int} (h:StRow w B v l) (hf:FtB w b e l0 c) (e2 l2 c2:Int):StRow (((w.setCell ⟨b,0,none⟩ (.int .i64 e2)).setCell ⟨b,1,none⟩ (.int .i64 l2)).setCell ⟨b,2,none⟩ (.int .i64 c2)) B v l:=
 ⟨hf.row h.row (by decide) e2 l2 c2,fun e he=>hf.row (h.nm e he) (by decide) e2 l2 c2,fun e he=>hf.row (h.it e he) (by decide) e2 l2 c2⟩
theorem StRow.put {w w':World} {B:Nat} {v v':Value} {l:List Sv} {x:Sv} (h:StRow w B v l) (hg:w.grownBy w' v.ownBlock) (hown:w'.ownsRow B 37 12 v' (l.length+1) (svFlat l ++svCells x))
 (hn:w.ownsRow B 9 1 x.2.1 x.1.names.length (strV x.1.names)) (hi:w.ownsRow B 87 9 x.2.2 x.1.ifs.length (itFlat x.1.ifs)):StRow w' B v' (l ++ [x]):=by
 refine⟨by rw[svFlat_snoc,List.length_append,List.length_singleton];exact hown,fun e he=>?_,fun e he=>?_⟩
 · rcases List.mem_append.1 he with h1|h1
   · exact owns_beside h.row (h.nm e h1) (by decide) hg
   · obtain rfl:e=x:=by simpa using h1
     exact owns_beside h.row hn (by decide) hg
 · rcases List.mem_append.1 he with h1|h1
   · exact owns_beside h.row (h.it e h1) (by decide) hg
   · obtain rfl:e=x:=by simpa using h1
     exact owns_beside h.row hi (by decide) hg
def readD (s:ByteArray):SR:=
 if(tokRes s).er≠0 then .bad (tokRes s).er (tokRes s).line (tokRes s).col else readS (tokRes s).T (tokRes s).T.length 0 []
def DReadPost (w:World) (p:SR) (e:Ending) (w':World):Prop:=
 match p with
 | .ok L=>∃ (l:List Sv) (v:Value),l.map (·.1)=L∧e=.returned (.tuple #[v,.agg #[.int .i64 0,.int .i64 0,.int .i64 0]])∧StRow w' w.heap.size v l∧Below w.heap.size w w'
 | .bad er l c=>e=.returned (.tuple #[.slice none 0 0,.agg #[.int .i64 er,.int .i64 l,.int .i64 c]])∧Below w.heap.size w w'
theorem info_stmt: (Tryz.prog.info? 37).map (fun i=>(i.zero,i.size,i.bytes))=some (some (.agg #[.int .i64 0,.string ⟨#[]⟩,.int .i64 0,.int .i64 0,.int .i64 0,.slice none 0 0,.string ⟨#[]⟩,.string ⟨#[]⟩,.string ⟨#[]⟩,.int .i64 0,.slice none 0 0,.bool false]),12,160):=by kernel_rfl
theorem dread_results {W:World} {tmps:Array Value} {f:Nat} {v:Value} {e l c:Int} (hf:FtB W f e l c) (h2:tmps[2]?.getD undef=v) (h3:tmps[3]?.getD undef=.pointer (some ⟨f,0,none⟩)) :
 (results Tryz.f8 tmps).run Tryz.prog W=.ok (.tuple #[v,.agg #[.int .i64 e,.int .i64 l,.int .i64 c]]) W:=by
 obtain⟨u0,u1,u2⟩:=hf.facts
 simp[results,Tryz.results8,go_sem,h2,h3,u0,u1,u2]
theorem StRow.mono {w:World} {B B2:Nat} {v:Value} {l:List Sv} (h:StRow w B v l) (hB:B2≤B):StRow w B2 v l:=
 ⟨owns_mono h.row hB,fun e he=>owns_mono (h.nm e he) hB,fun e he=>owns_mono (h.it e he) hB⟩
theorem dread_bad (s:ByteArray) (w:World) (hm:MaxCell w) (hs:s.size≤4294967200) (h0: (tokRes s).er≠0) :
 Calls Tryz.prog 8 #[.string s] w (DReadPost w (readD s)):=by
 have HZ:0 < w.heap.size:=by obtain⟨m,hm⟩:=hm;exact World.block_lt_of_cell? w _ hm
 have HTK:=Lh (tokens_any s _ (hm.below ((Below.refl w.heap.size w).alloc (Nat.le_refl _) oB3) HZ) hs)
 have HF0:=Lh (show FtB (w.alloc oB3) w.heap.size 0 0 0 from heap_alloc_new w _)
 have HB0:=Lh ((Below.refl w.heap.size w).alloc (Nat.le_refl _) oB3)
 obtain⟨er,her⟩:∃ e,(tokRes s).er=e:=⟨_,rfl⟩
 obtain⟨tl,htl⟩:∃ e,(tokRes s).line=e:=⟨_,rfl⟩
 obtain⟨tc,htc⟩:∃ e,(tokRes s).col=e:=⟨_,rfl⟩
 rw[her] at h0
 have HER:=Lh her;have HTL:=Lh htl;have HTC:=Lh htc
 have HE0:=Lh h0
 have HU:Hid (readD s=.bad er tl tc):=by unfold Hid readD;rw[HER.out,if_pos h0,HTL.out,HTC.out]
 have hne: (er !=0)=true:=by simpa using h0
 clear h0 her htl htc hm
 go_enter Tryz.func8,Tryz.ntmps8
 go_wp2_with fail
 refine HTK.out.mono ?_
 rintro en w1 ⟨v,rfl,hown,hb1⟩
 rw[HER.out,HTL.out,HTC.out,faultV_no HE0.out]
 have hf1:=HF0.out.below hb1
 obtain⟨q0,q1,q2⟩:=hf1.facts
 obtain⟨z0,z1,z2⟩:=hf1.free
 have hlt1:=hf1.lt
 have HBB:=Lh (HB0.out.trans (hb1.mono HB0.out.size))
 have HE:=Lh ((hf1.stored er tl tc).alloc (.cells #[.int .i64 er,.int .i64 tl,.int .i64 tc] 28)).facts
 clear hown hb1 hf1
 go_wp2
 go_region
 go_wp2
 obtain⟨e0,e1,e2⟩:=HE.out
 refine bodyPost_ret (v:=.tuple #[.slice none 0 0,.agg #[.int .i64 er,.int .i64 tl,.int .i64 tc]]) (by simp[results,Tryz.results8,go_sem,e0,e1,e2]) rfl ?_
 rw[HU.out]
 exact⟨rfl,((below_fault HBB.out (Nat.le_refl _) _ _ _).alloc (by have:=HBB.out.size;simp;omega) _).drew⟩
theorem dread_ok (s:ByteArray) (w:World) (hm:MaxCell w) (hs:s.size≤4294967200) (h0: (tokRes s).er=0) :
 Calls Tryz.prog 8 #[.string s] w (DReadPost w (readD s)):=by
 have HZ:0 < w.heap.size:=by obtain⟨m,hm⟩:=hm;exact World.block_lt_of_cell? w _ hm
 have HTK:=Lh (tokens_any s _ (hm.below ((Below.refl w.heap.size w).alloc (Nat.le_refl _) oB3) HZ) hs)
 have HF0:=Lh (show FtB (w.alloc oB3) w.heap.size 0 0 0 from heap_alloc_new w _)
 have HB0:=Lh ((Below.refl w.heap.size w).alloc (Nat.le_refl _) oB3)
 have HS0:=Lh (show(w.alloc oB3).heap.size=w.heap.size+1 by simp)
 have HER:=Lh h0
 obtain⟨X,hX,hXl⟩:=tokRes_endD s h0
 obtain⟨T,hT⟩:∃ T,(tokRes s).T=T:=⟨_,rfl⟩
 have HT:=Lh hT
 have hTl:T.length≤4097:=by rw[←hT,hX];simp;omega
 have hEnd:∀ a:Int,(tkAt T (a - 1)).kind≠5→0 < a→a < T.length+1→a < T.length:=by
  intro a h1 h2 h3
  refine Classical.byContradiction fun h4=>h1 ?_
  have e:a - 1= ((X.length:Nat):Int):=by rw[←hT,hX] at h3 h4;simp at h3 h4;omega
  have:T[X.length]?=some (endTk s):=by rw[←hT,hX];simp
  rw[e,tkAt_some this];rfl
 have HEND:=Lh hEnd
 have hTP:0 < T.length:=by rw[←hT,hX];simp
 have HTP:=Lh hTP
 have HTL6:=Lh hTl
 have HU:Hid (readD s=readS T T.length 0 []):=by unfold Hid readD;rw[if_neg (by omega),hT]
 clear hX hXl hEnd hT h0 hm hTl hTP
 go_enter Tryz.func8,Tryz.ntmps8
 go_wp2_with fail
 refine HTK.out.mono ?_
 rintro en w1 ⟨v,rfl,hown,hb1⟩
 rw[HT.out] at hown
 rw[HER.out,faultV_ok]
 obtain⟨g,cap,hv,hg,hgs⟩:=owns_shape hown HTP.out
 rw[HS0.out] at hg
 subst hv
 have hf1:=(HF0.out.below hb1).alloc oB3
 have hal:=(Below.refl w1.heap.size w1).alloc (Nat.le_refl _) oB3
 have hs1:=hb1.size
 rw[HS0.out] at hs1
 obtain⟨W1,hW1⟩:∃ W,W=w1.alloc oB3:=⟨_,rfl⟩
 have hsW:W1.heap.size=w1.heap.size+1:=by rw[hW1];simp
 have HOW:=Lh (show W1.ownsRow _ _ _ _ _ _ by rw[hW1];exact hown.alloc oB3)
 have HTI:=Lh (tkIn_ownsD (B:=W1.heap.size) HOW.out (Nat.le_refl _) (by have:=HTL6.out;omega))
 have HBB:=Lh (show Below w.heap.size w W1 by rw[hW1];exact(HB0.out.trans (hb1.mono HB0.out.size)).trans (hal.mono (Nat.le_trans HB0.out.size hb1.size)))
 have F1:=Lh (show FtB W1 w.heap.size 0 0 0 by rw[hW1];exact hf1)
 have HW1:=Lh hW1
 have HSW:=Lh hsW
 clear hown hb1 hf1 hal hsW
 go_wp2
 rw[←HW1.out]
 clear hW1
 go_loopw [6,7] (fun v6 v7 wr=>∃ (k i:Nat) (l:List Sv),v7=.int .i64 i∧Hid (Below W1.heap.size W1 wr∧StRow wr W1.heap.size v6 l∧readS T T.length 0 []=readS T k i (l.map (·.1))∧i < T.length∧T.length≤i+k∧l.length≤i)) (fun _ v7 _=>T.length - (intOf v7).toNat)
 case atStart=>exact⟨T.length,0,[],rfl,Below.refl _ _,StRow.nil _ _,rfl,HTP.out,by omega,Nat.le_refl _⟩
 case round=>
  obtain⟨k,i,l,rfl,HALL⟩:=hrel
  have HB:=Lh HALL.out.1
  have HR:=Lh HALL.out.2.1
  have HQ:=Lh HALL.out.2.2.1
  have hiT:i < T.length:=HALL.out.2.2.2.1
  have HK:=Lh HALL.out.2.2.2.2
  clear HALL
  obtain⟨y,hy⟩:∃ y,T[i]?=some y:=⟨_,List.getElem?_eq_getElem hiT⟩
  have HY:=Lh (show tkAt T i=y from tkAt_some hy)
  obtain⟨g',off,cap',e1,-,hgw,d0,-,-,-,-⟩:=(HTI.out.below HB.out).at hy
  obtain⟨⟨rfl,rfl⟩,rfl⟩: (g=g'∧off=0)∧cap=cap':=by simpa [eq_comm] using e1
  clear hy
  rw[Nat.zero_add] at d0
  have hfr:=F1.out.below (HB.out.mono (by have:=F1.out.lt;omega) |> fun h=>h)
  have F2:=Lh hfr
  obtain⟨q0,q1,q2⟩:=hfr.facts
  obtain⟨z0,z1,z2⟩:=hfr.free
  have hltF:=hfr.lt
  have hi0: (0:Int)≤(i:Int):=by omega
  have hi1: (i:Int) < (T.length:Int):=by omega
  clear hfr
  by_cases h5:y.kind=5
  · have h5b: (y.kind !=5)=false:=by simp[h5]
    have HE:Hid (readS T T.length 0 []=.ok (l.map (·.1))):=by
     unfold Hid;rw[HQ.out]
     cases k with
     | zero=>rfl
     | succ k=>rw[readS,if_pos (by rw[HY.out];exact h5)]
    clear h5
    have HF3:=Lh (F2.out.stored 0 0 0)
    have HR3:=Lh ((HR.out.mono HBB.out.size).fault F2.out 0 0 0)
    have HB3:=Lh (below_fault (HBB.out.trans (HB.out.mono HBB.out.size)) (Nat.le_refl _) (.int .i64 0) (.int .i64 0) (.int .i64 0))
    go_wp2
    refine bodyPost_ret (dread_results HF3.out rfl rfl) rfl ?_
    rw[HU.out,HE.out]
    exact⟨l,_,rfl,rfl,HR3.out,HB3.out⟩
  · have h5b: (y.kind !=5)=true:=by simpa using h5
    have HN5:=Lh h5
    clear h5
    cases hp:oneD T i with
    | bad e l0 c=>
      have HE:Hid (readS T T.length 0 []=.bad e l0 c):=by
       unfold Hid;rw[HQ.out]
       obtain⟨q,rfl⟩:∃ q,k=q+1:=⟨k - 1,by have:=HK.out.1;omega⟩
       rw[readS,if_neg (by rw[HY.out];exact HN5.out),hp]
      have hne:=oneD_bad hp
      have hneb: (e !=0)=true:=by simpa using hne
      have HP:=Lh hp
      clear hp hne
      go_wp2_with fail
      refine(done_any ((HTI.out.below HB.out).mono HB.out.size) i).mono ?_
      rw[HP.out]
      rintro en w2 ⟨rfl,hb2⟩
      rw[show stV noSt (.slice none 0 0) (.slice none 0 0)=.agg #[.int .i64 0,.string ⟨#[]⟩,.int .i64 0,.int .i64 0,.int .i64 0,.slice none 0 0,.string ⟨#[]⟩,.string ⟨#[]⟩,.string ⟨#[]⟩,.int .i64 0,.slice none 0 0,.bool false] from rfl]
      have F3:=Lh ((((F2.out.below hb2).stored e l0 c).alloc oB5).alloc (.cells #[.int .i64 e,.int .i64 l0,.int .i64 c] 28)).drew
      have BL:=Lh ((((below_fault ((HBB.out.trans (HB.out.mono HBB.out.size)).trans (hb2.mono (Nat.le_trans HBB.out.size HB.out.size))) (Nat.le_refl _) (.int .i64 e) (.int .i64 l0) (.int .i64 c)).alloc (by have:=hb2.size;have:=HB.out.size;have:=HBB.out.size;simp;omega) oB5).alloc (by have:=hb2.size;have:=HB.out.size;have:=HBB.out.size;simp;omega) (.cells #[.int .i64 e,.int .i64 l0,.int .i64 c] 28)).drew)
      have hf2:=F2.out.below hb2
      clear q0 q1 q2 z0 z1 z2 hltF
      obtain⟨q0,q1,q2⟩:=hf2.facts
      obtain⟨z0,z1,z2⟩:=hf2.free
      have hltF:=hf2.lt
      clear hf2 hb2
      go_wp2
      go_region
      go_wp2
      refine bodyPost_ret (dread_results F3.out rfl rfl) rfl ?_
      rw[HU.out,HE.out]
      exact⟨rfl,BL.out⟩
    | ok x a=>
      obtain⟨ha0,ha1,ha2,ha3⟩:=oneD_ok hp
      have haT:=HEND.out a ha3 (by omega) ha2
      obtain⟨ka,hka⟩:∃ ka:Nat,a=ka:=⟨a.toNat,by omega⟩
      subst hka
      have HE:Hid (∃ q,k=q+1∧readS T T.length 0 []=readS T q ka (l.map (·.1) ++ [x])):=by
       unfold Hid
       obtain⟨q,rfl⟩:∃ q,k=q+1:=⟨k - 1,by have:=HK.out.1;omega⟩
       refine⟨q,rfl,?_⟩
       rw[HQ.out,readS,if_neg (by rw[HY.out];exact HN5.out),hp]
      have HKA:=Lh (show i+2≤ka∧ka < T.length by omega)
      have HP:=Lh hp
      clear hp ha0 ha1 ha2 ha3 haT
      go_wp2_with fail
      refine(done_any ((HTI.out.below HB.out).mono HB.out.size) i).mono ?_
      rw[HP.out]
      rintro en w2 ⟨nv,iv,rfl,hn,hi,hb2⟩
      obtain⟨ad5,cap5,hv5⟩:=owns_len hn
      obtain⟨n5,hn5⟩:∃ n,x.names.length=n:=⟨_,rfl⟩
      rw[hn5] at hv5
      obtain⟨ad6,cap6,hv6⟩:=owns_len hi
      obtain⟨n6,hn6⟩:∃ n,x.ifs.length=n:=⟨_,rfl⟩
      rw[hn6] at hv6
      clear hn5 hn6
      subst hv5 hv6
      unfold stV
      have HB2:=Lh (((hb2.mono HB.out.size).alloc (by have:=hb2.size;have:=HB.out.size;omega) (.cells #[.int .i64 x.kind,.string x.name,.int .i64 x.line,.int .i64 x.col,.int .i64 x.init,(.slice ad5 n5 cap5),.string x.role,.string x.stage,.string x.event,.int .i64 x.times,(.slice ad6 n6 cap6),.bool x.final] 37)).alloc (by have:=hb2.size;have:=HB.out.size;simp;omega) oB3)
      have HBr:=Lh ((hb2.alloc hb2.size (.cells #[.int .i64 x.kind,.string x.name,.int .i64 x.line,.int .i64 x.col,.int .i64 x.init,(.slice ad5 n5 cap5),.string x.role,.string x.stage,.string x.event,.int .i64 x.times,(.slice ad6 n6 cap6),.bool x.final] 37)).alloc (by have:=hb2.size;simp;omega) oB3)
      have HN3:=Lh (owns_mono ((hn.alloc (.cells #[.int .i64 x.kind,.string x.name,.int .i64 x.line,.int .i64 x.col,.int .i64 x.init,(.slice ad5 n5 cap5),.string x.role,.string x.stage,.string x.event,.int .i64 x.times,(.slice ad6 n6 cap6),.bool x.final] 37)).alloc oB3) HB.out.size)
      have HI3:=Lh (owns_mono ((hi.alloc (.cells #[.int .i64 x.kind,.string x.name,.int .i64 x.line,.int .i64 x.col,.int .i64 x.init,(.slice ad5 n5 cap5),.string x.role,.string x.stage,.string x.event,.int .i64 x.times,(.slice ad6 n6 cap6),.bool x.final] 37)).alloc oB3) HB.out.size)
      have HR3:=Lh (HR.out.below HBr.out)
      have hlen:l.length≤4097:=by have:=HK.out.2;have:=HTL6.out;omega
      have hszb:W1.heap.size≤w2.heap.size:=Nat.le_trans HB.out.size hb2.size
      clear hn hi hb2 q0 q1 q2 z0 z1 z2
      go_wp2_with (at_builtin;refine app1 ((w2.alloc (.cells #[.int .i64 x.kind,.string x.name,.int .i64 x.line,.int .i64 x.col,.int .i64 x.init,(.slice ad5 n5 cap5),.string x.role,.string x.stage,.string x.event,.int .i64 x.times,(.slice ad6 n6 cap6),.bool x.final] 37)).alloc oB3) #[.int .i64 x.kind,.string x.name,.int .i64 x.line,.int .i64 x.col,.int .i64 x.init,(.slice ad5 n5 cap5),.string x.role,.string x.stage,.string x.event,.int .i64 x.times,(.slice ad6 n6 cap6),.bool x.final] rfl _ _ 23 rfl W1.heap.size 37 _ 12 160 Tryz.underlying23 info_stmt rfl (by decide) (by decide) _ _ _ rfl (by exact HR3.out.row) rfl (by simp) rfl (by simp[Value.oneCell']) (by omega) (by simp;omega) ?_;intro v' w3 hown' hg' hb')
      obtain⟨q,hq,hE⟩:=HE.out
      have HR4:=Lh (HR3.out.put (x:=(x,(.slice ad5 n5 cap5),(.slice ad6 n6 cap6))) hg' hown' HN3.out HI3.out)
      have HB4:=Lh ((HB.out.trans HB2.out).trans hb')
      have HQ4:=Lh hE
      have hq1:=hq
      clear hown' hg' hb' hE hq
      go_wp2
      go_roundw
      case rel=>exact⟨q,ka,l ++ [(x,(.slice ad5 n5 cap5),(.slice ad6 n6 cap6))],rfl,HB4.out,HR4.out,by rw[HQ4.out,List.map_append];rfl,HKA.out.2,by have:=HK.out.1;have:=HKA.out.1;omega,by have:=HK.out.2;have:=HKA.out.1;rw[List.length_append,List.length_singleton];omega⟩
      case measure=>
       have e1: (intOf (.int .i64 (ka:Int))).toNat=ka:=rfl
       have e2: (intOf (.int .i64 (i:Int))).toNat=i:=rfl
       have:=HKA.out.1
       first
       | (rw[e1,e2];omega)
       | (simp[intOf];omega)
theorem svFlat_cons (x:Sv) (l:List Sv):svFlat (x :: l)=svCells x ++svFlat l:=by simp[svFlat]
theorem svFlat_get (l:List Sv) (i j:Nat) (x:Sv) (hx:l[i]?=some x) (hj:j < 12): (svFlat l)[i * 12+j]?= (svCells x)[j]?:=by
 induction l generalizing i with
 | nil=>simp at hx
 | cons y r ih=>
   rw[svFlat_cons]
   cases i with
   | zero=>
     simp only[List.getElem?_cons_zero,Option.some.injEq] at hx
     subst hx
     rw[Nat.zero_mul,Nat.zero_add,List.getElem?_append_left (by simp[svCells];omega)]
   | succ i=>
     rw[List.getElem?_append_right (by simp[svCells];omega)]
     rw[show(i+1) * 12+j - (svCells y).length=i * 12+j by simp[svCells];omega]
     exact ih i (by simpa using hx)
theorem owns_max {w:World} {base:Nat} {e:TypeId} {sz:Nat} {v:Value} {n:Nat} {xs:List Value} (h:w.ownsRow base e sz v n xs):n≤9223372036854775807:=by
 rcases h.2 with⟨_,h0⟩ | ⟨g,cap,cur,hv,hb,hg,hnc,hcm,_⟩
 · omega
 · unfold maxLen at hcm;omega
def NmRow (w:World) (v:Value) (l:List ByteArray):Prop:=∃ B,w.ownsRow B 9 1 v l.length (strV l)
theorem NmRow.keep {w w':World} {v:Value} {l:List ByteArray} (h:NmRow w v l) (hb:Below w.heap.size w w'):NmRow w' v l:=by
 obtain⟨B,h⟩:=h;exact⟨B,owns_below h hb⟩
theorem NmRow.len {w:World} {v:Value} {l:List ByteArray} (h:NmRow w v l):∃ ad cap,v=.slice ad l.length cap:=by
 obtain⟨B,h⟩:=h;exact owns_len h
theorem NmRow.at {w:World} {v:Value} {l:List ByteArray} (h:NmRow w v l) {k:Nat} {x:ByteArray} (hx:l[k]?=some x) :
 ∃ g cap,v=.slice (some ⟨g,0,none⟩) l.length cap∧g < w.heap.size∧w.cell? ⟨g,k,none⟩ = some (.string x):=by
 obtain⟨B,h⟩:=h
 have hk:=(List.getElem?_eq_some_iff.1 hx).1
 obtain⟨g,cap,rfl,hg,hgs⟩:=owns_shape h (by omega)
 have c:=(World.ownsRow.cellAt h k (by omega)).trans (show(strV l)[k]?=some (.string x) by unfold strV;rw[List.getElem?_map,hx];rfl)
 exact⟨g,cap,rfl,hgs,c⟩
def SvRow (w:World) (v:Value) (l:List Sv):Prop:=∃ B,StRow w B v l
theorem SvRow.keep {w w':World} {v:Value} {l:List Sv} (h:SvRow w v l) (hb:Below w.heap.size w w'):SvRow w' v l:=by
 obtain⟨B,h⟩:=h;exact⟨B,h.below hb⟩
theorem SvRow.len {w:World} {v:Value} {l:List Sv} (h:SvRow w v l):∃ ad cap,v=.slice ad l.length cap:=by
 obtain⟨B,h⟩:=h;exact owns_len h.row
theorem SvRow.at {w:World} {v:Value} {l:List Sv} (h:SvRow w v l) {k:Nat} {x:Sv} (hx:l[k]?=some x) :
 ∃ g cap,v=.slice (some ⟨g,0,none⟩) l.length cap∧g < w.heap.size∧w.cell? ⟨g,k * 12,none⟩ = some (.int .i64 x.1.kind)∧w.cell? ⟨g,k * 12+1,none⟩ = some (.string x.1.name)∧w.cell? ⟨g,k * 12+2,none⟩ = some (.int .i64 x.1.line)∧
  w.cell? ⟨g,k * 12+3,none⟩ = some (.int .i64 x.1.col)∧w.cell? ⟨g,k * 12+4,none⟩ = some (.int .i64 x.1.init)∧w.cell? ⟨g,k * 12+5,none⟩ = some x.2.1∧w.cell? ⟨g,k * 12+6,none⟩ = some (.string x.1.role)∧
  w.cell? ⟨g,k * 12+7,none⟩ = some (.string x.1.stage)∧w.cell? ⟨g,k * 12+8,none⟩ = some (.string x.1.event)∧w.cell? ⟨g,k * 12+9,none⟩ = some (.int .i64 x.1.times)∧w.cell? ⟨g,k * 12+10,none⟩ = some x.2.2∧w.cell? ⟨g,k * 12+11,none⟩ = some (.bool x.1.final)∧
  NmRow w x.2.1 x.1.names∧ItRow w x.2.2 x.1.ifs:=by
 obtain⟨B,h⟩:=h
 have hk:=(List.getElem?_eq_some_iff.1 hx).1
 have hm:=List.mem_of_getElem? hx
 obtain⟨g,cap,rfl,hg,hgs⟩:=owns_shape h.row (by omega)
 have c:=fun j (hj:j < 12)=>(World.ownsRow.cellAt h.row (k * 12+j) (by omega)).trans (svFlat_get _ k j x hx hj)
 exact⟨g,cap,rfl,hgs,c 0 (by omega),c 1 (by omega),c 2 (by omega),c 3 (by omega),c 4 (by omega),c 5 (by omega),c 6 (by omega),c 7 (by omega),c 8 (by omega),c 9 (by omega),c 10 (by omega),c 11 (by omega),⟨B,h.nm x hm⟩,⟨B,h.it x hm⟩⟩
theorem sameNames_any {w:World} {u v:Value} {T:List ByteArray} (ha:NmRow w u T) (hb:NmRow w v T) :
 Calls Tryz.prog 35 #[u,v] w fun e w'=>e=.returned (.bool true)∧∃ n,w'=w.drewN n:=by
 obtain⟨ad,cap,hu⟩:=ha.len
 obtain⟨ad2,cap2,hv⟩:=hb.len
 have hT:T.length≤9223372036854775807:=by obtain⟨_,h⟩:=ha;exact owns_max h
 have HA:=Lh ha
 have HB:=Lh hb
 subst hu
 subst hv
 clear ha hb
 go_enter Tryz.func35,Tryz.ntmps35
 go_wp2
 go_loopw [5] (fun i wr=>∃ k n:Nat,i=.int .i64 k∧k≤T.length∧wr=w.drewN n) (fun i _=>T.length - (intOf i).toNat)
 case atStart=>exact⟨0,0,by go_num,by omega,rfl⟩
 case round=>
  obtain⟨k,n,rfl,hk,rfl⟩:=hrel
  by_cases hlt:k < T.length
  · obtain⟨x,hx⟩:∃ x,T[k]?=some x:=⟨_,List.getElem?_eq_getElem hlt⟩
    obtain⟨g,c1,hg,hgl,a0⟩:=HA.out.at hx
    obtain⟨g2,c2,hg2,hgl2,b0⟩:=HB.out.at hx
    simp only[Value.slice.injEq,true_and] at hg hg2
    obtain⟨rfl,rfl⟩:=hg
    obtain⟨rfl,rfl⟩:=hg2
    have hkz: (k:Int) < (T.length:Int):=by omega
    clear hx
    go_wp2
    go_quiet (fail)
    go_wp2
    go_roundw
    case rel=>exact⟨k+1,_,by go_num,by omega,rfl⟩
    case measure=>simp[intOf];omega
  · have hkz: (T.length:Int)≤(k:Int):=by omega
    go_wp2
    go_ret
    exact⟨rfl,n,rfl⟩
theorem dread_any (s:ByteArray) (w:World) (hm:MaxCell w) (hs:s.size≤4294967200) :
 Calls Tryz.prog 8 #[.string s] w (DReadPost w (readD s)):=by
 by_cases h0: (tokRes s).er=0
 · exact dread_ok s w hm hs h0
 · exact dread_bad s w hm hs h0
def awake7T:ByteArray:=⟨#[115,116,97,103,101,32,115,59,32,97,116,116,114,32,97,32,61,32,45,49,59]⟩
theorem awake7T_tok:tokRes awake7T= ⟨0,0,0,0,[⟨2,⟨#[115,116,97,103,101]⟩,0,1,1⟩,⟨1,⟨#[115]⟩,0,1,7⟩,⟨4,⟨#[59]⟩,0,1,8⟩,⟨2,⟨#[97,116,116,114]⟩,0,1,10⟩,⟨1,⟨#[97]⟩,0,1,15⟩,⟨4,⟨#[61]⟩,0,1,17⟩,⟨3,⟨#[45,49]⟩,-1,1,19⟩,⟨4,⟨#[59]⟩,0,1,21⟩,⟨5,⟨#[]⟩,0,1,22⟩]⟩:=by kernel_rfl
theorem awake7T_read:readD awake7T=.ok [⟨4,⟨#[115]⟩,1,1,0,[],⟨#[]⟩,⟨#[]⟩,⟨#[]⟩,0,[],false⟩,⟨1,⟨#[97]⟩,1,10,-1,[],⟨#[]⟩,⟨#[]⟩,⟨#[]⟩,0,[],false⟩]:=by
 unfold readD
 rw[awake7T_tok]
 kernel_rfl
theorem two_of {l:List Sv} {a b:St} (h:l.map (·.1)= [a,b]):∃ p q:Sv,l= [p,q]∧p.1=a∧q.1=b:=by
 match l,h with
 | [p,q],h=>
   simp only[List.map_cons,List.map_nil,List.cons.injEq,and_true] at h
   exact⟨p,q,rfl,h.1,h.2⟩
theorem svFlat_two (p q:Sv):svFlat [p,q]= [.int .i64 p.1.kind,.string p.1.name,.int .i64 p.1.line,.int .i64 p.1.col,.int .i64 p.1.init,p.2.1,.string p.1.role,.string p.1.stage,.string p.1.event,.int .i64 p.1.times,p.2.2,.bool p.1.final,.int .i64 q.1.kind,.string q.1.name,.int .i64 q.1.line,.int .i64 q.1.col,.int .i64 q.1.init,q.2.1,.string q.1.role,.string q.1.stage,.string q.1.event,.int .i64 q.1.times,q.2.2,.bool q.1.final]:=rfl
theorem awake07 (w:World) (hm:MaxCell w) :
 Calls Tryz.prog 7 #[] w fun e w'=>e=.returned (.bool true)∧Below w.heap.size w w':=by
 have HW:=Lh (dread_any awake7T w hm (by decide))
 have HA:=Lh awake7T_read
 go_enter Tryz.func7,Tryz.ntmps7
 go_wp2_with fail
 refine HW.out.mono ?_
 rw[HA.out]
 rintro e w1 ⟨l,v,hl,rfl,hr,hb1⟩
 obtain⟨p,q,rfl,hp,hq⟩:=two_of hl
 have hown:=hr.row
 simp only[List.length_cons,List.length_nil,Nat.zero_add,Nat.reduceAdd] at hown
 obtain⟨g,cap,rfl,hg,hgs⟩:=owns_shape hown (by omega)
 have c0:=World.ownsRow.cellAt hown 0 (by omega)
 have c1:=World.ownsRow.cellAt hown 1 (by omega)
 have c14:=World.ownsRow.cellAt hown 14 (by omega)
 have c15:=World.ownsRow.cellAt hown 15 (by omega)
 have c16:=World.ownsRow.cellAt hown 16 (by omega)
 have HB:=Lh hb1
 clear hown hb1 hr
 rw[svFlat_two] at c0 c1 c14 c15 c16
 simp only[List.getElem?_cons_zero,List.getElem?_cons_succ] at c0 c1 c14 c15 c16
 rw[show p.1.kind=4 by rw[hp]] at c0
 rw[show p.1.name= ⟨#[115]⟩ by rw[hp]] at c1
 rw[show q.1.line=1 by rw[hq]] at c14
 rw[show q.1.col=10 by rw[hq]] at c15
 rw[show q.1.init= -1 by rw[hq]] at c16
 clear hp hq hl
 go_wp2
 go_ret
 exact⟨rfl,HB.out.alloc HB.out.size _⟩
end Go.Proofs.YthlofmnmacpogaaGreatDoor
