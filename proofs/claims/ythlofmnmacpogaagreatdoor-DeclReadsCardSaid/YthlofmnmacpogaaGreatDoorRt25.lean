/- A part of a proof of DeclReadsProof. -/
import Derived.Test.YthlofmnmacpogaaGreatDoorRt21
set_option maxRecDepth 100000
set_option maxHeartbeats 40000000
namespace Go.Proofs.YthlofmnmacpogaaGreatDoor
open Go.RowKit
def rs0 (i:Int):RS:=⟨i,noSt,0,0,0⟩
theorem one_results {W:World} {tmps:Array Value} {b f:Nat} {x:St} {nv iv:Value} {e l c:Int} (hs:StB W b x nv iv) (hf:FtB W f e l c) (at_:Int) (h4:tmps[4]?.getD undef=.pointer (some ⟨b,0,none⟩)) (h5:tmps[5]?.getD undef=.int .i64 at_) (h6:tmps[6]?.getD undef=.pointer (some ⟨f,0,none⟩)) :
 (results Tryz.f11 tmps).run Tryz.prog W=.ok (.tuple #[stV x nv iv,.int .i64 at_,.agg #[.int .i64 e,.int .i64 l,.int .i64 c]]) W:=by
 obtain⟨q0,q1,q2,q3,q4,q5,q6,q7,q8,q9,q10,q11⟩:=hs.facts
 obtain⟨u0,u1,u2⟩:=hf.facts
 simp[results,Tryz.results11,go_sem,h4,h5,h6,q0,q1,q2,q3,q4,q5,q6,q7,q8,q9,q10,q11,u0,u1,u2,stV]
theorem OneS.start {w:World} {lv:Value} {T:List Tk} (h:TkIn w w.heap.size lv T) (i:Int) :
 OneS w (((w.alloc oB5).alloc oB3).alloc (.cells #[lv,.int .i64 i,.int .i64 0,.string ⟨#[]⟩,.int .i64 0,.int .i64 0,.int .i64 0,.slice none 0 0,.string ⟨#[]⟩,.string ⟨#[]⟩,.string ⟨#[]⟩,.int .i64 0,.slice none 0 0,.bool false,.int .i64 0,.int .i64 0,.int .i64 0] 53)) w.heap.size lv (.slice none 0 0) (.slice none 0 0) T (rs0 i):=by
 have hs1: (w.alloc oB5).heap.size=w.heap.size+1:=by simp
 have hs2: ((w.alloc oB5).alloc oB3).heap.size=w.heap.size+2:=by simp
 have b1:Below w.heap.size w (w.alloc oB5):=(Below.refl _ w).alloc (Nat.le_refl _) _
 have b2:Below w.heap.size w ((w.alloc oB5).alloc oB3):=b1.alloc (by omega) _
 have b3:Below w.heap.size w (((w.alloc oB5).alloc oB3).alloc (.cells #[lv,.int .i64 i,.int .i64 0,.string ⟨#[]⟩,.int .i64 0,.int .i64 0,.int .i64 0,.slice none 0 0,.string ⟨#[]⟩,.string ⟨#[]⟩,.string ⟨#[]⟩,.int .i64 0,.slice none 0 0,.bool false,.int .i64 0,.int .i64 0,.int .i64 0] 53)):=b2.alloc (by omega) _
 have s0:StB (w.alloc oB5) w.heap.size noSt (.slice none 0 0) (.slice none 0 0):=heap_alloc_new w _
 have f0:FtB ((w.alloc oB5).alloc oB3) (w.heap.size+1) 0 0 0:=by have e:=heap_alloc_new (w.alloc oB5) oB3;rw[hs1] at e;exact e
 have r0: (((w.alloc oB5).alloc oB3).alloc (.cells #[lv,.int .i64 i,.int .i64 0,.string ⟨#[]⟩,.int .i64 0,.int .i64 0,.int .i64 0,.slice none 0 0,.string ⟨#[]⟩,.string ⟨#[]⟩,.string ⟨#[]⟩,.int .i64 0,.slice none 0 0,.bool false,.int .i64 0,.int .i64 0,.int .i64 0] 53)).heap[w.heap.size+2]?=some (.cells #[lv,.int .i64 i,.int .i64 0,.string ⟨#[]⟩,.int .i64 0,.int .i64 0,.int .i64 0,.slice none 0 0,.string ⟨#[]⟩,.string ⟨#[]⟩,.string ⟨#[]⟩,.int .i64 0,.slice none 0 0,.bool false,.int .i64 0,.int .i64 0,.int .i64 0] 53):=by have e:=heap_alloc_new ((w.alloc oB5).alloc oB3) (.cells #[lv,.int .i64 i,.int .i64 0,.string ⟨#[]⟩,.int .i64 0,.int .i64 0,.int .i64 0,.slice none 0 0,.string ⟨#[]⟩,.string ⟨#[]⟩,.string ⟨#[]⟩,.int .i64 0,.slice none 0 0,.bool false,.int .i64 0,.int .i64 0,.int .i64 0] 53);rw[hs2] at e;exact e
 exact⟨⟨r0,by omega,h.below b3,World.ownsRow_nil _ _ _ _,World.ownsRow_nil _ _ _ _⟩,(s0.alloc _).alloc _,f0.alloc _,b3,rfl⟩
theorem OneS.alloc {w W:World} {B:Nat} {lv nv iv:Value} {T:List Tk} {r:RS} (h:OneS w W B lv nv iv T r) (o:Obj):OneS w (W.alloc o) B lv nv iv T r:=
 h.then ((Below.refl _ W).alloc (Nat.le_refl _) o)
theorem OneS.drew {w W:World} {B:Nat} {lv nv iv:Value} {T:List Tk} {r:RS} (h:OneS w W B lv nv iv T r):OneS w W.drew B lv nv iv T r:=
 ⟨h.rd.drew,h.st.drew,h.ft.drew,h.lo.drew,h.eq⟩
theorem OneS.good {w W:World} {B:Nat} {lv nv iv:Value} {T:List Tk} {r:RS} (h:OneS w W B lv nv iv T r):Hid (StB (((((((((((((((W.setCell ⟨w.heap.size,0,none⟩ (.int .i64 r.x.kind)).setCell ⟨w.heap.size,1,none⟩ (.string r.x.name)).setCell ⟨w.heap.size,2,none⟩ (.int .i64 r.x.line)).setCell ⟨w.heap.size,3,none⟩ (.int .i64 r.x.col)).setCell ⟨w.heap.size,4,none⟩ (.int .i64 r.x.init)).setCell ⟨w.heap.size,5,none⟩ nv).setCell ⟨w.heap.size,6,none⟩ (.string r.x.role)).setCell ⟨w.heap.size,7,none⟩ (.string r.x.stage)).setCell ⟨w.heap.size,8,none⟩ (.string r.x.event)).setCell ⟨w.heap.size,9,none⟩ (.int .i64 r.x.times)).setCell ⟨w.heap.size,10,none⟩ iv).setCell ⟨w.heap.size,11,none⟩ (.bool r.x.final)).setCell ⟨(w.heap.size+1),0,none⟩ (.int .i64 0)).setCell ⟨(w.heap.size+1),1,none⟩ (.int .i64 0)).setCell ⟨(w.heap.size+1),2,none⟩ (.int .i64 0)) w.heap.size r.x nv iv∧FtB (((((((((((((((W.setCell ⟨w.heap.size,0,none⟩ (.int .i64 r.x.kind)).setCell ⟨w.heap.size,1,none⟩ (.string r.x.name)).setCell ⟨w.heap.size,2,none⟩ (.int .i64 r.x.line)).setCell ⟨w.heap.size,3,none⟩ (.int .i64 r.x.col)).setCell ⟨w.heap.size,4,none⟩ (.int .i64 r.x.init)).setCell ⟨w.heap.size,5,none⟩ nv).setCell ⟨w.heap.size,6,none⟩ (.string r.x.role)).setCell ⟨w.heap.size,7,none⟩ (.string r.x.stage)).setCell ⟨w.heap.size,8,none⟩ (.string r.x.event)).setCell ⟨w.heap.size,9,none⟩ (.int .i64 r.x.times)).setCell ⟨w.heap.size,10,none⟩ iv).setCell ⟨w.heap.size,11,none⟩ (.bool r.x.final)).setCell ⟨(w.heap.size+1),0,none⟩ (.int .i64 0)).setCell ⟨(w.heap.size+1),1,none⟩ (.int .i64 0)).setCell ⟨(w.heap.size+1),2,none⟩ (.int .i64 0)) (w.heap.size+1) 0 0 0∧(((((((((((((((W.setCell ⟨w.heap.size,0,none⟩ (.int .i64 r.x.kind)).setCell ⟨w.heap.size,1,none⟩ (.string r.x.name)).setCell ⟨w.heap.size,2,none⟩ (.int .i64 r.x.line)).setCell ⟨w.heap.size,3,none⟩ (.int .i64 r.x.col)).setCell ⟨w.heap.size,4,none⟩ (.int .i64 r.x.init)).setCell ⟨w.heap.size,5,none⟩ nv).setCell ⟨w.heap.size,6,none⟩ (.string r.x.role)).setCell ⟨w.heap.size,7,none⟩ (.string r.x.stage)).setCell ⟨w.heap.size,8,none⟩ (.string r.x.event)).setCell ⟨w.heap.size,9,none⟩ (.int .i64 r.x.times)).setCell ⟨w.heap.size,10,none⟩ iv).setCell ⟨w.heap.size,11,none⟩ (.bool r.x.final)).setCell ⟨(w.heap.size+1),0,none⟩ (.int .i64 0)).setCell ⟨(w.heap.size+1),1,none⟩ (.int .i64 0)).setCell ⟨(w.heap.size+1),2,none⟩ (.int .i64 0)).ownsRow w.heap.size 9 1 nv r.x.names.length (strV r.x.names)∧(((((((((((((((W.setCell ⟨w.heap.size,0,none⟩ (.int .i64 r.x.kind)).setCell ⟨w.heap.size,1,none⟩ (.string r.x.name)).setCell ⟨w.heap.size,2,none⟩ (.int .i64 r.x.line)).setCell ⟨w.heap.size,3,none⟩ (.int .i64 r.x.col)).setCell ⟨w.heap.size,4,none⟩ (.int .i64 r.x.init)).setCell ⟨w.heap.size,5,none⟩ nv).setCell ⟨w.heap.size,6,none⟩ (.string r.x.role)).setCell ⟨w.heap.size,7,none⟩ (.string r.x.stage)).setCell ⟨w.heap.size,8,none⟩ (.string r.x.event)).setCell ⟨w.heap.size,9,none⟩ (.int .i64 r.x.times)).setCell ⟨w.heap.size,10,none⟩ iv).setCell ⟨w.heap.size,11,none⟩ (.bool r.x.final)).setCell ⟨(w.heap.size+1),0,none⟩ (.int .i64 0)).setCell ⟨(w.heap.size+1),1,none⟩ (.int .i64 0)).setCell ⟨(w.heap.size+1),2,none⟩ (.int .i64 0)).ownsRow w.heap.size 87 9 iv r.x.ifs.length (itFlat r.x.ifs)∧Below w.heap.size w (((((((((((((((W.setCell ⟨w.heap.size,0,none⟩ (.int .i64 r.x.kind)).setCell ⟨w.heap.size,1,none⟩ (.string r.x.name)).setCell ⟨w.heap.size,2,none⟩ (.int .i64 r.x.line)).setCell ⟨w.heap.size,3,none⟩ (.int .i64 r.x.col)).setCell ⟨w.heap.size,4,none⟩ (.int .i64 r.x.init)).setCell ⟨w.heap.size,5,none⟩ nv).setCell ⟨w.heap.size,6,none⟩ (.string r.x.role)).setCell ⟨w.heap.size,7,none⟩ (.string r.x.stage)).setCell ⟨w.heap.size,8,none⟩ (.string r.x.event)).setCell ⟨w.heap.size,9,none⟩ (.int .i64 r.x.times)).setCell ⟨w.heap.size,10,none⟩ iv).setCell ⟨w.heap.size,11,none⟩ (.bool r.x.final)).setCell ⟨(w.heap.size+1),0,none⟩ (.int .i64 0)).setCell ⟨(w.heap.size+1),1,none⟩ (.int .i64 0)).setCell ⟨(w.heap.size+1),2,none⟩ (.int .i64 0))):=by
 have hs:=h.st.stored r.x nv iv
 have hf:FtB ((((((((((((W.setCell ⟨w.heap.size,0,none⟩ (.int .i64 r.x.kind)).setCell ⟨w.heap.size,1,none⟩ (.string r.x.name)).setCell ⟨w.heap.size,2,none⟩ (.int .i64 r.x.line)).setCell ⟨w.heap.size,3,none⟩ (.int .i64 r.x.col)).setCell ⟨w.heap.size,4,none⟩ (.int .i64 r.x.init)).setCell ⟨w.heap.size,5,none⟩ nv).setCell ⟨w.heap.size,6,none⟩ (.string r.x.role)).setCell ⟨w.heap.size,7,none⟩ (.string r.x.stage)).setCell ⟨w.heap.size,8,none⟩ (.string r.x.event)).setCell ⟨w.heap.size,9,none⟩ (.int .i64 r.x.times)).setCell ⟨w.heap.size,10,none⟩ iv).setCell ⟨w.heap.size,11,none⟩ (.bool r.x.final)) (w.heap.size+1) 0 0 0:=((((((((((((h.ft).over1 (by omega) _).over1 (by omega) _).over1 (by omega) _).over1 (by omega) _).over1 (by omega) _).over1 (by omega) _).over1 (by omega) _).over1 (by omega) _).over1 (by omega) _).over1 (by omega) _).over1 (by omega) _).over1 (by omega) _
 have hn:=h.st.row h.rd.nm (by decide) r.x nv iv
 have hi:=h.st.row h.rd.it (by decide) r.x nv iv
 have eB:=h.eq
 subst eB
 exact⟨((hs.over (by omega) _).over (by omega) _).over (by omega) _,hf.stored 0 0 0,hf.row hn (by decide) 0 0 0,hf.row hi (by decide) 0 0 0,below_fault (below_st h.lo (Nat.le_refl _) _ _ _ _ _ _ _ _ _ _ _ _) (by omega) _ _ _⟩
theorem tk_in {T:List Tk} {i:Int} (h: (tkAt T i).kind≠5):0≤i∧i < (T.length:Int):=by
 unfold tkAt at h
 split at h
 · exact absurd rfl h
 · refine⟨by omega,?_⟩
   refine Classical.byContradiction fun hn=>h ?_
   rw[List.getElem?_eq_none (by omega)]
   rfl
theorem one_kind {w:World} {lv:Value} {T:List Tk} (h:TkIn w w.heap.size lv T) (i:Int) (hk: (tkAt T i).kind≠2) :
 Calls Tryz.prog 11 #[lv,.int .i64 i] w fun e w'=>OnePost w (oneD T i) e w':=by
 have HO:=Lh (show oneD T i=.bad 4 (tkAt T i).line (tkAt T i).col by unfold oneD;rw[if_pos (.inl hk)])
 have HS0:=Lh (OneS.start h i)
 have hsz0: (((w.alloc oB5).alloc oB3).alloc (.cells #[lv,.int .i64 i,.int .i64 0,.string ⟨#[]⟩,.int .i64 0,.int .i64 0,.int .i64 0,.slice none 0 0,.string ⟨#[]⟩,.string ⟨#[]⟩,.string ⟨#[]⟩,.int .i64 0,.slice none 0 0,.bool false,.int .i64 0,.int .i64 0,.int .i64 0] 53)).heap.size=w.heap.size+3:=by simp
 have HZ0:=Lh hsz0
 obtain⟨x,hx⟩:∃ x,tkAt T i=x:=⟨_,rfl⟩
 have HX:=Lh hx
 obtain⟨ad,cap,rfl,-,-⟩:=h
 clear hx hsz0
 go_enter Tryz.func11,Tryz.ntmps11
 go_wp2_with fail
 refine(dnow_any HS0.out.rd).mono ?_
 rintro en w1 ⟨rfl,hb1⟩
 rw[show tkAt T (rs0 i).i=x from HX.out]
 unfold tokV
 have HS1:=Lh ((HS0.out.then hb1).alloc (tO x))
 have HT:=Lh (show TkB (w1.alloc (tO x)) w1.heap.size x from heap_alloc_new w1 _)
 have hsz1:w.heap.size+3≤w1.heap.size:=by rw[←HZ0.out];exact hb1.size
 have HZ1:=Lh (show(w1.alloc (tO x)).heap.size=w1.heap.size+1 by simp)
 clear hb1
 obtain⟨t0,t1,t2,t3,t4⟩:=HT.out.facts
 go_wp2_with fail
 refine(drule_any x.text _).mono ?_
 rintro en w2 ⟨rfl,hw⟩
 rw[hw]
 clear hw
 have hkb: (x.kind !=2)=true:=by have hk:=hk;rw[show tkAt T i=x from HX.out] at hk;simpa using hk
 clear hk
 go_wp2_with fail
 refine(dfail_any HS1.out.rd HS1.out.size 4).mono ?_
 rintro en w3 ⟨rfl,hc⟩
 have HS3:=Lh (HS1.out.next hc)
 clear hc
 have hf:failD T 4 (rs0 i)= { rs0 i with er:=4,line:=x.line,col:=x.col }:=by unfold failD;rw[if_pos (show(rs0 i).er=0 from rfl),show tkAt T (rs0 i).i=x from HX.out]
 unfold Hid at HS3
 rw[hf] at HS3
 replace HS3:=Lh HS3
 clear hf
 obtain⟨_,_,_,_,_,_,_,_,_,_,_,_,_,_,c14,c15,c16⟩:=HS3.out.rd.facts
 obtain⟨a0,a1,a2,a3,a4,a5,a6,a7,a8,a9,a10,a11⟩:=HS3.out.st.facts
 obtain⟨b0,b1,b2,b3,b4,b5,b6,b7,b8,b9,b10,b11⟩:=HS3.out.st.free
 obtain⟨d0,d1,d2⟩:=HS3.out.ft.facts
 obtain⟨g0,g1,g2⟩:=HS3.out.ft.free
 have HBD:=Lh (HS3.out.bad 4 x.line x.col)
 go_wp2
 go_region
 go_wp2
 refine bodyPost_ret (one_results HBD.out.1.drew HBD.out.2.1.drew 0 rfl rfl rfl) rfl ?_
 rw[HO.out,show tkAt T i=x from HX.out]
 exact⟨rfl,HBD.out.2.2.drew⟩
theorem one_none {w:World} {lv:Value} {T:List Tk} (h:TkIn w w.heap.size lv T) (i:Int) (hk: (tkAt T i).kind=2) (hkk:kindN (tkAt T i).text=0) :
 Calls Tryz.prog 11 #[lv,.int .i64 i] w fun e w'=>OnePost w (oneD T i) e w':=by
 have HO:=Lh (show oneD T i=.bad 4 (tkAt T i).line (tkAt T i).col by unfold oneD;rw[if_pos (.inr hkk)])
 have HS0:=Lh (OneS.start h i)
 have hsz0: (((w.alloc oB5).alloc oB3).alloc (.cells #[lv,.int .i64 i,.int .i64 0,.string ⟨#[]⟩,.int .i64 0,.int .i64 0,.int .i64 0,.slice none 0 0,.string ⟨#[]⟩,.string ⟨#[]⟩,.string ⟨#[]⟩,.int .i64 0,.slice none 0 0,.bool false,.int .i64 0,.int .i64 0,.int .i64 0] 53)).heap.size=w.heap.size+3:=by simp
 have HZ0:=Lh hsz0
 obtain⟨x,hx⟩:∃ x,tkAt T i=x:=⟨_,rfl⟩
 have HX:=Lh hx
 obtain⟨ad,cap,rfl,-,-⟩:=h
 clear hx hsz0
 go_enter Tryz.func11,Tryz.ntmps11
 go_wp2_with fail
 refine(dnow_any HS0.out.rd).mono ?_
 rintro en w1 ⟨rfl,hb1⟩
 rw[show tkAt T (rs0 i).i=x from HX.out]
 unfold tokV
 have HS1:=Lh ((HS0.out.then hb1).alloc (tO x))
 have HT:=Lh (show TkB (w1.alloc (tO x)) w1.heap.size x from heap_alloc_new w1 _)
 have hsz1:w.heap.size+3≤w1.heap.size:=by rw[←HZ0.out];exact hb1.size
 have HZ1:=Lh (show(w1.alloc (tO x)).heap.size=w1.heap.size+1 by simp)
 clear hb1
 obtain⟨t0,t1,t2,t3,t4⟩:=HT.out.facts
 go_wp2_with fail
 refine(drule_any x.text _).mono ?_
 rintro en w2 ⟨rfl,hw⟩
 rw[hw]
 clear hw
 have hkb: (x.kind !=2)=false:=by rw[←show tkAt T i=x from HX.out,hk];rfl
 rw[show kindN x.text=0 by rw[←show tkAt T i=x from HX.out];exact hkk,show ruleF 0=Value.nilFunc from rfl]
 have hnil:∀ W:World,Sem.run Tryz.prog (binOp .eql 55 .nilFunc .nilFunc) W=.ok (.bool true) W:=fun W=>by rfl
 clear hk hkk
 go_wp2_with fail
 refine(dfail_any HS1.out.rd HS1.out.size 4).mono ?_
 rintro en w3 ⟨rfl,hc⟩
 have HS3:=Lh (HS1.out.next hc)
 clear hc
 have hf:failD T 4 (rs0 i)= { rs0 i with er:=4,line:=x.line,col:=x.col }:=by unfold failD;rw[if_pos (show(rs0 i).er=0 from rfl),show tkAt T (rs0 i).i=x from HX.out]
 unfold Hid at HS3
 rw[hf] at HS3
 replace HS3:=Lh HS3
 clear hf
 obtain⟨_,_,_,_,_,_,_,_,_,_,_,_,_,_,c14,c15,c16⟩:=HS3.out.rd.facts
 obtain⟨a0,a1,a2,a3,a4,a5,a6,a7,a8,a9,a10,a11⟩:=HS3.out.st.facts
 obtain⟨b0,b1,b2,b3,b4,b5,b6,b7,b8,b9,b10,b11⟩:=HS3.out.st.free
 obtain⟨d0,d1,d2⟩:=HS3.out.ft.facts
 obtain⟨g0,g1,g2⟩:=HS3.out.ft.free
 have HBD:=Lh (HS3.out.bad 4 x.line x.col)
 go_wp2
 go_region
 go_wp2
 refine bodyPost_ret (one_results HBD.out.1.drew HBD.out.2.1.drew 0 rfl rfl rfl) rfl ?_
 rw[HO.out,show tkAt T i=x from HX.out]
 exact⟨rfl,HBD.out.2.2.drew⟩
theorem inD_attr {T:List Tk} {r:RS} (h:InD T r):InD T (attrD T r):=by
 have h1:InD T (setName (nameV T r) (nameD T r)):=h.name
 have h2:=h1.need 4 sEq (by decide)
 exact h2.num
theorem inD_user {T:List Tk} {r:RS} (h:InD T r):InD T (userD T r):=h.name
theorem inD_more {T:List Tk} {r:RS} (h:InD T r):InD T (moreD T r):=h.name
theorem inD_roleL {T:List Tk}:∀ (k:Nat) {r:RS},InD T r→InD T (roleL T k r)
 | 0,_,h=>h
 | k+1,r,h=>by
   rw[roleL]
   split
   · exact inD_roleL k (inD_more h)
   · exact h
theorem inD_role {T:List Tk} {r:RS} (h:InD T r):InD T (roleD T r):=by
 have h1:InD T (setName (nameV T r) (nameD T r)):=h.name
 exact inD_roleL _ (inD_more (h1.need 4 sEq (by decide)))
theorem inD_stage {T:List Tk} {r:RS} (h:InD T r):InD T (stageD T r):=by
 have h1:InD T (setName (nameV T r) (nameD T r)):=h.name
 unfold stageD
 dsimp only
 split
 · exact(h1.may 2 wIn (by decide)).name
 · exact h1
theorem inD_times {T:List Tk} {r:RS} (h:InD T r):InD T (timesD T r):=by
 unfold timesD
 dsimp only
 split
 · exact(h.fail 11).num
 · exact h.num
theorem inD_setsL {T:List Tk}:∀ (k:Nat) {r:RS},InD T r→InD T (setsL T k r)
 | 0,_,h=>h
 | k+1,r,h=>by
   rw[setsL]
   split
   · exact inD_setsL k (inD_more (h.may 4 sComma (by decide)))
   · exact h
theorem inD_event {T:List Tk} {r:RS} (h:InD T r):InD T (eventD T r):=by
 have h1:InD T (setName (nameV T r) (nameD T r)):=h.name
 have h2:=h1.need 2 wBy (by decide)
 have h3:InD T (setRole (nameV T (needD T 2 wBy (setName (nameV T r) (nameD T r)))) (nameD T (needD T 2 wBy (setName (nameV T r) (nameD T r))))):=h2.name
 have h4:=h3.need 2 wIn (by decide)
 have h5:InD T (evHead T r):=h4.name
 have h6:InD T (evSets T (evHead T r)):=by
  unfold evSets
  split
  · exact inD_setsL _ (inD_more (h5.may 2 wSets (by decide)))
  · exact h5
 rw[event_is]
 unfold evMax
 split
 · exact inD_times (h6.may 2 wMax (by decide))
 · exact h6
theorem inD_guard {T:List Tk} {r:RS} (h:InD T r):InD T (guardD T r):=by
 have h1:InD T (setStage (nameV T r) (nameD T r)):=h.name
 exact h1.sentry
theorem inD_mile {T:List Tk} {r:RS} (h:InD T r):InD T (mileD T r):=by
 have h1:InD T (setName (nameV T r) (nameD T r)):=h.name
 have h2:=h1.need 2 wOf (by decide)
 have h3:InD T (setStage (nameV T (needD T 2 wOf (setName (nameV T r) (nameD T r)))) (nameD T (needD T 2 wOf (setName (nameV T r) (nameD T r))))):=h2.name
 exact(h3.sentry).may 2 wFinal (by decide)
theorem inD_sod {T:List Tk} {r:RS} (h:InD T r):InD T (sodD T r):=by
 have h1:=h.name
 exact(h1.need 4 sComma (by decide)).name
theorem one_attr {w:World} {lv:Value} {T:List Tk} (h:TkIn w w.heap.size lv T) (i:Int) (hk: (tkAt T i).kind=2) (hkk:kindN (tkAt T i).text=1) :
 Calls Tryz.prog 11 #[lv,.int .i64 i] w fun e w'=>OnePost w (oneD T i) e w':=by
 have hin:0≤i∧i < (T.length:Int):=tk_in (by rw[hk];decide)
 have hTl:T.length≤1000000:=by obtain⟨_,_,_,hl,_⟩:=h;exact hl
 have HTL:=Lh hTl
 have HI8:=Lh (show InD T (startD T i) from⟨show 0≤i+1 by omega,show i+1≤(T.length:Int) by omega⟩)
 have HO:=Lh (show oneD T i=if(needD T 4 sSemi (attrD T (startD T i))).er=0 then .ok (needD T 4 sSemi (attrD T (startD T i))).x (needD T 4 sSemi (attrD T (startD T i))).i else .bad (needD T 4 sSemi (attrD T (startD T i))).er (needD T 4 sSemi (attrD T (startD T i))).line (needD T 4 sSemi (attrD T (startD T i))).col by unfold oneD;rw[hkk,if_neg (by rw[hk];decide)];rfl)
 have HIJ:=Lh (show InD T (attrD T (startD T i)) from inD_attr HI8.out)
 have HKK:=Lh hkk
 have HK:=Lh hk
 clear hkk hk
 have HS0:=Lh (OneS.start h i)
 have hsz0: (((w.alloc oB5).alloc oB3).alloc (.cells #[lv,.int .i64 i,.int .i64 0,.string ⟨#[]⟩,.int .i64 0,.int .i64 0,.int .i64 0,.slice none 0 0,.string ⟨#[]⟩,.string ⟨#[]⟩,.string ⟨#[]⟩,.int .i64 0,.slice none 0 0,.bool false,.int .i64 0,.int .i64 0,.int .i64 0] 53)).heap.size=w.heap.size+3:=by simp
 have HZ0:=Lh hsz0
 obtain⟨x,hx⟩:∃ x,tkAt T i=x:=⟨_,rfl⟩
 have HX:=Lh hx
 obtain⟨ad,cap,rfl,-,-⟩:=h
 clear hx hsz0
 go_enter Tryz.func11,Tryz.ntmps11
 go_wp2_with fail
 refine(dnow_any HS0.out.rd).mono ?_
 rintro en w1 ⟨rfl,hb1⟩
 rw[show tkAt T (rs0 i).i=x from HX.out]
 unfold tokV
 have HS1:=Lh ((HS0.out.then hb1).alloc (tO x))
 have HT:=Lh (show TkB (w1.alloc (tO x)) w1.heap.size x from heap_alloc_new w1 _)
 have hsz1:w.heap.size+3≤w1.heap.size:=by rw[←HZ0.out];exact hb1.size
 have HZ1:=Lh (show(w1.alloc (tO x)).heap.size=w1.heap.size+1 by simp)
 clear hb1
 obtain⟨t0,t1,t2,t3,t4⟩:=HT.out.facts
 go_wp2_with fail
 refine(drule_any x.text _).mono ?_
 rintro en w2 ⟨rfl,hw⟩
 rw[hw]
 clear hw
 replace HKK:=Lh (show kindN x.text=1 by rw[←HX.out];exact HKK.out)
 have hkb: (x.kind !=2)=false:=by rw[←HX.out,HK.out];rfl
 rw[HKK.out,show ruleF 1=Value.func (.func 37) #[] #[] from rfl]
 have hlo:-9223372036854775808≤i:=by omega
 have hhi:i≤2000000:=by have:=HTL.out;omega
 have hnil:∀ W:World,Sem.run Tryz.prog (binOp .eql 55 (.func (.func 37) #[] #[]) .nilFunc) W=.ok (.bool false) W:=fun W=>by rfl
 clear hTl hin
 obtain⟨_,c1,c2,_,c4,c5,_,_,_,_,_,_,_,_,_,_,_⟩:=HS1.out.rd.facts
 obtain⟨_,f1,f2,_,f4,f5,_,_,_,_,_,_,_,_,_,_,_⟩:=HS1.out.rd.free
 go_upto_region 7 with fail
 go_cut [] (fun wx=>Hid (OneS w wx w.heap.size (.slice ad T.length cap) (.slice none 0 0) (.slice none 0 0) T ⟨i,{ noSt with kind:=1,line:=x.line,col:=x.col },0,0,0⟩))
 case first=>
  go_region
  all_goals
   go_wp2_with fail
   go_meet
   first
   | exact Lh (OneS.drew (HS1.out.next ((((DT.of_rd HS1.out.rd).setKind 1).setLine x.line).setCol x.col)))
   | exact Lh (OneS.drew (HS1.out.next ((((DT.of_rd HS1.out.rd).setLine x.line).setCol x.col).setKind 1)))
 have HS7:=hcut
 clear hcut c1 c2 c4 c5 f1 f2 f4 f5 t0 t1 t2 t3 t4
 obtain⟨_,c1,_,_,_,_,_,_,_,_,_,_,_,_,_,_,_⟩:=HS7.out.rd.facts
 obtain⟨_,f1,_,_,_,_,_,_,_,_,_,_,_,_,_,_,_⟩:=HS7.out.rd.free
 have HS8:=Lh (HS7.out.next ((DT.of_rd HS7.out.rd).setI (i+1)))
 have he8: (⟨i+1,{ noSt with kind:=1,line:=x.line,col:=x.col },0,0,0⟩:RS)=startD T i:=by unfold startD;rw[HX.out,HKK.out]
 unfold Hid at HS8
 rw[show({ (⟨i,{ noSt with kind:=1,line:=x.line,col:=x.col },0,0,0⟩:RS) with i:=i+1 })=startD T i from he8] at HS8
 replace HS8:=Lh HS8
 clear he8
 go_wp2_with fail
 refine(dattr_any HS8.out.rd HS8.out.size HI8.out).mono ?_
 obtain⟨r3,hr3⟩:∃ q,attrD T (startD T i)=q:=⟨_,rfl⟩
 unfold Hid at HO HIJ
 rw[hr3] at HO HIJ ⊢
 replace HO:=Lh HO
 replace HIJ:=Lh HIJ
 rintro en w4 ⟨rfl,hc⟩
 have HS9:=Lh (HS8.out.next hc)
 clear hc hr3 HS8 HS7 HS1 c1 f1
 go_wp2_with fail
 refine(dneed_any HS9.out.rd HS9.out.size 4 sSemi (bndD HIJ.out HTL.out).1 (bndD HIJ.out HTL.out).2).mono ?_
 obtain⟨r4,hr4⟩:∃ q,needD T 4 sSemi r3=q:=⟨_,rfl⟩
 unfold Hid at HO
 rw[hr4] at HO ⊢
 replace HO:=Lh HO
 rintro en w5 ⟨rfl,hc⟩
 have HS10:=Lh (HS9.out.next hc)
 clear hc hr4 HS9
 go_wp2_with fail
 refine(dwell_any HS10.out.rd).mono ?_
 rintro en w6 ⟨rfl,hw⟩
 rw[hw]
 clear hw
 obtain⟨c0,c1,c2,c3,c4,c5,c6,c7,c8,c9,c10,c11,c12,c13,c14,c15,c16⟩:=HS10.out.rd.facts
 obtain⟨a0,a1,a2,a3,a4,a5,a6,a7,a8,a9,a10,a11⟩:=HS10.out.st.facts
 obtain⟨b0,b1,b2,b3,b4,b5,b6,b7,b8,b9,b10,b11⟩:=HS10.out.st.free
 obtain⟨d0,d1,d2⟩:=HS10.out.ft.facts
 obtain⟨g0,g1,g2⟩:=HS10.out.ft.free
 by_cases h0:r4.er=0
 · replace HO:=Lh (HO.out.trans (if_pos h0))
   rw[decide_eq_true h0]
   have HBD:=Lh HS10.out.good.out
   clear h0 c14 c15 c16
   go_wp2
   go_region
   go_wp2
   refine bodyPost_ret (one_results HBD.out.1.drew HBD.out.2.1.drew r4.i rfl rfl rfl) rfl ?_
   rw[HO.out]
   exact⟨_,_,rfl,HBD.out.2.2.1.drew,HBD.out.2.2.2.1.drew,HBD.out.2.2.2.2.drew⟩
 · replace HO:=Lh (HO.out.trans (if_neg h0))
   rw[decide_eq_false h0]
   have HBD:=Lh (HS10.out.bad r4.er r4.line r4.col).out
   clear h0
   go_wp2
   go_region
   go_wp2
   refine bodyPost_ret (one_results HBD.out.1.drew HBD.out.2.1.drew 0 rfl rfl rfl) rfl ?_
   rw[HO.out]
   exact⟨rfl,HBD.out.2.2.drew⟩
theorem one_user {w:World} {lv:Value} {T:List Tk} (h:TkIn w w.heap.size lv T) (i:Int) (hk: (tkAt T i).kind=2) (hkk:kindN (tkAt T i).text=2) :
 Calls Tryz.prog 11 #[lv,.int .i64 i] w fun e w'=>OnePost w (oneD T i) e w':=by
 have hin:0≤i∧i < (T.length:Int):=tk_in (by rw[hk];decide)
 have hTl:T.length≤1000000:=by obtain⟨_,_,_,hl,_⟩:=h;exact hl
 have HTL:=Lh hTl
 have HI8:=Lh (show InD T (startD T i) from⟨show 0≤i+1 by omega,show i+1≤(T.length:Int) by omega⟩)
 have HO:=Lh (show oneD T i=if(needD T 4 sSemi (userD T (startD T i))).er=0 then .ok (needD T 4 sSemi (userD T (startD T i))).x (needD T 4 sSemi (userD T (startD T i))).i else .bad (needD T 4 sSemi (userD T (startD T i))).er (needD T 4 sSemi (userD T (startD T i))).line (needD T 4 sSemi (userD T (startD T i))).col by unfold oneD;rw[hkk,if_neg (by rw[hk];decide)];rfl)
 have HIJ:=Lh (show InD T (userD T (startD T i)) from inD_user HI8.out)
 have HKK:=Lh hkk
 have HK:=Lh hk
 clear hkk hk
 have HS0:=Lh (OneS.start h i)
 have hsz0: (((w.alloc oB5).alloc oB3).alloc (.cells #[lv,.int .i64 i,.int .i64 0,.string ⟨#[]⟩,.int .i64 0,.int .i64 0,.int .i64 0,.slice none 0 0,.string ⟨#[]⟩,.string ⟨#[]⟩,.string ⟨#[]⟩,.int .i64 0,.slice none 0 0,.bool false,.int .i64 0,.int .i64 0,.int .i64 0] 53)).heap.size=w.heap.size+3:=by simp
 have HZ0:=Lh hsz0
 obtain⟨x,hx⟩:∃ x,tkAt T i=x:=⟨_,rfl⟩
 have HX:=Lh hx
 obtain⟨ad,cap,rfl,-,-⟩:=h
 clear hx hsz0
 go_enter Tryz.func11,Tryz.ntmps11
 go_wp2_with fail
 refine(dnow_any HS0.out.rd).mono ?_
 rintro en w1 ⟨rfl,hb1⟩
 rw[show tkAt T (rs0 i).i=x from HX.out]
 unfold tokV
 have HS1:=Lh ((HS0.out.then hb1).alloc (tO x))
 have HT:=Lh (show TkB (w1.alloc (tO x)) w1.heap.size x from heap_alloc_new w1 _)
 have hsz1:w.heap.size+3≤w1.heap.size:=by rw[←HZ0.out];exact hb1.size
 have HZ1:=Lh (show(w1.alloc (tO x)).heap.size=w1.heap.size+1 by simp)
 clear hb1
 obtain⟨t0,t1,t2,t3,t4⟩:=HT.out.facts
 go_wp2_with fail
 refine(drule_any x.text _).mono ?_
 rintro en w2 ⟨rfl,hw⟩
 rw[hw]
 clear hw
 replace HKK:=Lh (show kindN x.text=2 by rw[←HX.out];exact HKK.out)
 have hkb: (x.kind !=2)=false:=by rw[←HX.out,HK.out];rfl
 rw[HKK.out,show ruleF 2=Value.func (.func 38) #[] #[] from rfl]
 have hlo:-9223372036854775808≤i:=by omega
 have hhi:i≤2000000:=by have:=HTL.out;omega
 have hnil:∀ W:World,Sem.run Tryz.prog (binOp .eql 55 (.func (.func 38) #[] #[]) .nilFunc) W=.ok (.bool false) W:=fun W=>by rfl
 clear hTl hin
 obtain⟨_,c1,c2,_,c4,c5,_,_,_,_,_,_,_,_,_,_,_⟩:=HS1.out.rd.facts
 obtain⟨_,f1,f2,_,f4,f5,_,_,_,_,_,_,_,_,_,_,_⟩:=HS1.out.rd.free
 go_upto_region 7 with fail
 go_cut [] (fun wx=>Hid (OneS w wx w.heap.size (.slice ad T.length cap) (.slice none 0 0) (.slice none 0 0) T ⟨i,{ noSt with kind:=2,line:=x.line,col:=x.col },0,0,0⟩))
 case first=>
  go_region
  all_goals
   go_wp2_with fail
   go_meet
   first
   | exact Lh (OneS.drew (HS1.out.next ((((DT.of_rd HS1.out.rd).setKind 2).setLine x.line).setCol x.col)))
   | exact Lh (OneS.drew (HS1.out.next ((((DT.of_rd HS1.out.rd).setLine x.line).setCol x.col).setKind 2)))
 have HS7:=hcut
 clear hcut c1 c2 c4 c5 f1 f2 f4 f5 t0 t1 t2 t3 t4
 obtain⟨_,c1,_,_,_,_,_,_,_,_,_,_,_,_,_,_,_⟩:=HS7.out.rd.facts
 obtain⟨_,f1,_,_,_,_,_,_,_,_,_,_,_,_,_,_,_⟩:=HS7.out.rd.free
 have HS8:=Lh (HS7.out.next ((DT.of_rd HS7.out.rd).setI (i+1)))
 have he8: (⟨i+1,{ noSt with kind:=2,line:=x.line,col:=x.col },0,0,0⟩:RS)=startD T i:=by unfold startD;rw[HX.out,HKK.out]
 unfold Hid at HS8
 rw[show({ (⟨i,{ noSt with kind:=2,line:=x.line,col:=x.col },0,0,0⟩:RS) with i:=i+1 })=startD T i from he8] at HS8
 replace HS8:=Lh HS8
 clear he8
 go_wp2_with fail
 refine(duser_any HS8.out.rd HS8.out.size HI8.out).mono ?_
 obtain⟨r3,hr3⟩:∃ q,userD T (startD T i)=q:=⟨_,rfl⟩
 unfold Hid at HO HIJ
 rw[hr3] at HO HIJ ⊢
 replace HO:=Lh HO
 replace HIJ:=Lh HIJ
 rintro en w4 ⟨rfl,hc⟩
 have HS9:=Lh (HS8.out.next hc)
 clear hc hr3 HS8 HS7 HS1 c1 f1
 go_wp2_with fail
 refine(dneed_any HS9.out.rd HS9.out.size 4 sSemi (bndD HIJ.out HTL.out).1 (bndD HIJ.out HTL.out).2).mono ?_
 obtain⟨r4,hr4⟩:∃ q,needD T 4 sSemi r3=q:=⟨_,rfl⟩
 unfold Hid at HO
 rw[hr4] at HO ⊢
 replace HO:=Lh HO
 rintro en w5 ⟨rfl,hc⟩
 have HS10:=Lh (HS9.out.next hc)
 clear hc hr4 HS9
 go_wp2_with fail
 refine(dwell_any HS10.out.rd).mono ?_
 rintro en w6 ⟨rfl,hw⟩
 rw[hw]
 clear hw
 obtain⟨c0,c1,c2,c3,c4,c5,c6,c7,c8,c9,c10,c11,c12,c13,c14,c15,c16⟩:=HS10.out.rd.facts
 obtain⟨a0,a1,a2,a3,a4,a5,a6,a7,a8,a9,a10,a11⟩:=HS10.out.st.facts
 obtain⟨b0,b1,b2,b3,b4,b5,b6,b7,b8,b9,b10,b11⟩:=HS10.out.st.free
 obtain⟨d0,d1,d2⟩:=HS10.out.ft.facts
 obtain⟨g0,g1,g2⟩:=HS10.out.ft.free
 by_cases h0:r4.er=0
 · replace HO:=Lh (HO.out.trans (if_pos h0))
   rw[decide_eq_true h0]
   have HBD:=Lh HS10.out.good.out
   clear h0 c14 c15 c16
   go_wp2
   go_region
   go_wp2
   refine bodyPost_ret (one_results HBD.out.1.drew HBD.out.2.1.drew r4.i rfl rfl rfl) rfl ?_
   rw[HO.out]
   exact⟨_,_,rfl,HBD.out.2.2.1.drew,HBD.out.2.2.2.1.drew,HBD.out.2.2.2.2.drew⟩
 · replace HO:=Lh (HO.out.trans (if_neg h0))
   rw[decide_eq_false h0]
   have HBD:=Lh (HS10.out.bad r4.er r4.line r4.col).out
   clear h0
   go_wp2
   go_region
   go_wp2
   refine bodyPost_ret (one_results HBD.out.1.drew HBD.out.2.1.drew 0 rfl rfl rfl) rfl ?_
   rw[HO.out]
   exact⟨rfl,HBD.out.2.2.drew⟩
theorem one_role {w:World} {lv:Value} {T:List Tk} (h:TkIn w w.heap.size lv T) (i:Int) (hk: (tkAt T i).kind=2) (hkk:kindN (tkAt T i).text=3) :
 Calls Tryz.prog 11 #[lv,.int .i64 i] w fun e w'=>OnePost w (oneD T i) e w':=by
 have hin:0≤i∧i < (T.length:Int):=tk_in (by rw[hk];decide)
 have hTl:T.length≤1000000:=by obtain⟨_,_,_,hl,_⟩:=h;exact hl
 have HTL:=Lh hTl
 have HI8:=Lh (show InD T (startD T i) from⟨show 0≤i+1 by omega,show i+1≤(T.length:Int) by omega⟩)
 have HO:=Lh (show oneD T i=if(needD T 4 sSemi (roleD T (startD T i))).er=0 then .ok (needD T 4 sSemi (roleD T (startD T i))).x (needD T 4 sSemi (roleD T (startD T i))).i else .bad (needD T 4 sSemi (roleD T (startD T i))).er (needD T 4 sSemi (roleD T (startD T i))).line (needD T 4 sSemi (roleD T (startD T i))).col by unfold oneD;rw[hkk,if_neg (by rw[hk];decide)];rfl)
 have HIJ:=Lh (show InD T (roleD T (startD T i)) from inD_role HI8.out)
 have HKK:=Lh hkk
 have HK:=Lh hk
 clear hkk hk
 have HS0:=Lh (OneS.start h i)
 have hsz0: (((w.alloc oB5).alloc oB3).alloc (.cells #[lv,.int .i64 i,.int .i64 0,.string ⟨#[]⟩,.int .i64 0,.int .i64 0,.int .i64 0,.slice none 0 0,.string ⟨#[]⟩,.string ⟨#[]⟩,.string ⟨#[]⟩,.int .i64 0,.slice none 0 0,.bool false,.int .i64 0,.int .i64 0,.int .i64 0] 53)).heap.size=w.heap.size+3:=by simp
 have HZ0:=Lh hsz0
 obtain⟨x,hx⟩:∃ x,tkAt T i=x:=⟨_,rfl⟩
 have HX:=Lh hx
 obtain⟨ad,cap,rfl,-,-⟩:=h
 clear hx hsz0
 go_enter Tryz.func11,Tryz.ntmps11
 go_wp2_with fail
 refine(dnow_any HS0.out.rd).mono ?_
 rintro en w1 ⟨rfl,hb1⟩
 rw[show tkAt T (rs0 i).i=x from HX.out]
 unfold tokV
 have HS1:=Lh ((HS0.out.then hb1).alloc (tO x))
 have HT:=Lh (show TkB (w1.alloc (tO x)) w1.heap.size x from heap_alloc_new w1 _)
 have hsz1:w.heap.size+3≤w1.heap.size:=by rw[←HZ0.out];exact hb1.size
 have HZ1:=Lh (show(w1.alloc (tO x)).heap.size=w1.heap.size+1 by simp)
 clear hb1
 obtain⟨t0,t1,t2,t3,t4⟩:=HT.out.facts
 go_wp2_with fail
 refine(drule_any x.text _).mono ?_
 rintro en w2 ⟨rfl,hw⟩
 rw[hw]
 clear hw
 replace HKK:=Lh (show kindN x.text=3 by rw[←HX.out];exact HKK.out)
 have hkb: (x.kind !=2)=false:=by rw[←HX.out,HK.out];rfl
 rw[HKK.out,show ruleF 3=Value.func (.func 39) #[] #[] from rfl]
 have hlo:-9223372036854775808≤i:=by omega
 have hhi:i≤2000000:=by have:=HTL.out;omega
 have hnil:∀ W:World,Sem.run Tryz.prog (binOp .eql 55 (.func (.func 39) #[] #[]) .nilFunc) W=.ok (.bool false) W:=fun W=>by rfl
 clear hTl hin
 obtain⟨_,c1,c2,_,c4,c5,_,_,_,_,_,_,_,_,_,_,_⟩:=HS1.out.rd.facts
 obtain⟨_,f1,f2,_,f4,f5,_,_,_,_,_,_,_,_,_,_,_⟩:=HS1.out.rd.free
 go_upto_region 7 with fail
 go_cut [] (fun wx=>Hid (OneS w wx w.heap.size (.slice ad T.length cap) (.slice none 0 0) (.slice none 0 0) T ⟨i,{ noSt with kind:=3,line:=x.line,col:=x.col },0,0,0⟩))
 case first=>
  go_region
  all_goals
   go_wp2_with fail
   go_meet
   first
   | exact Lh (OneS.drew (HS1.out.next ((((DT.of_rd HS1.out.rd).setKind 3).setLine x.line).setCol x.col)))
   | exact Lh (OneS.drew (HS1.out.next ((((DT.of_rd HS1.out.rd).setLine x.line).setCol x.col).setKind 3)))
 have HS7:=hcut
 clear hcut c1 c2 c4 c5 f1 f2 f4 f5 t0 t1 t2 t3 t4
 obtain⟨_,c1,_,_,_,_,_,_,_,_,_,_,_,_,_,_,_⟩:=HS7.out.rd.facts
 obtain⟨_,f1,_,_,_,_,_,_,_,_,_,_,_,_,_,_,_⟩:=HS7.out.rd.free
 have HS8:=Lh (HS7.out.next ((DT.of_rd HS7.out.rd).setI (i+1)))
 have he8: (⟨i+1,{ noSt with kind:=3,line:=x.line,col:=x.col },0,0,0⟩:RS)=startD T i:=by unfold startD;rw[HX.out,HKK.out]
 unfold Hid at HS8
 rw[show({ (⟨i,{ noSt with kind:=3,line:=x.line,col:=x.col },0,0,0⟩:RS) with i:=i+1 })=startD T i from he8] at HS8
 replace HS8:=Lh HS8
 clear he8
 go_wp2_with fail
 refine(drole_any HS8.out.rd rfl HS8.out.size HI8.out).mono ?_
 obtain⟨r3,hr3⟩:∃ q,roleD T (startD T i)=q:=⟨_,rfl⟩
 unfold Hid at HO HIJ
 rw[hr3] at HO HIJ ⊢
 replace HO:=Lh HO
 replace HIJ:=Lh HIJ
 rintro en w4 ⟨rfl,nv,hc⟩
 obtain⟨ad5,cap5,hv5⟩:=owns_len hc.rd.nm
 obtain⟨n5,hn5⟩:∃ n,r3.x.names.length=n:=⟨_,rfl⟩
 rw[hn5] at hv5
 clear hn5
 subst hv5
 have HS9:=Lh (HS8.out.next hc)
 clear hc hr3 HS8 HS7 HS1 c1 f1
 go_wp2_with fail
 refine(dneed_any HS9.out.rd HS9.out.size 4 sSemi (bndD HIJ.out HTL.out).1 (bndD HIJ.out HTL.out).2).mono ?_
 obtain⟨r4,hr4⟩:∃ q,needD T 4 sSemi r3=q:=⟨_,rfl⟩
 unfold Hid at HO
 rw[hr4] at HO ⊢
 replace HO:=Lh HO
 rintro en w5 ⟨rfl,hc⟩
 have HS10:=Lh (HS9.out.next hc)
 clear hc hr4 HS9
 go_wp2_with fail
 refine(dwell_any HS10.out.rd).mono ?_
 rintro en w6 ⟨rfl,hw⟩
 rw[hw]
 clear hw
 obtain⟨c0,c1,c2,c3,c4,c5,c6,c7,c8,c9,c10,c11,c12,c13,c14,c15,c16⟩:=HS10.out.rd.facts
 obtain⟨a0,a1,a2,a3,a4,a5,a6,a7,a8,a9,a10,a11⟩:=HS10.out.st.facts
 obtain⟨b0,b1,b2,b3,b4,b5,b6,b7,b8,b9,b10,b11⟩:=HS10.out.st.free
 obtain⟨d0,d1,d2⟩:=HS10.out.ft.facts
 obtain⟨g0,g1,g2⟩:=HS10.out.ft.free
 by_cases h0:r4.er=0
 · replace HO:=Lh (HO.out.trans (if_pos h0))
   rw[decide_eq_true h0]
   have HBD:=Lh HS10.out.good.out
   clear h0 c14 c15 c16
   go_wp2
   go_region
   go_wp2
   refine bodyPost_ret (one_results HBD.out.1.drew HBD.out.2.1.drew r4.i rfl rfl rfl) rfl ?_
   rw[HO.out]
   exact⟨_,_,rfl,HBD.out.2.2.1.drew,HBD.out.2.2.2.1.drew,HBD.out.2.2.2.2.drew⟩
 · replace HO:=Lh (HO.out.trans (if_neg h0))
   rw[decide_eq_false h0]
   have HBD:=Lh (HS10.out.bad r4.er r4.line r4.col).out
   clear h0
   go_wp2
   go_region
   go_wp2
   refine bodyPost_ret (one_results HBD.out.1.drew HBD.out.2.1.drew 0 rfl rfl rfl) rfl ?_
   rw[HO.out]
   exact⟨rfl,HBD.out.2.2.drew⟩
theorem one_event {w:World} {lv:Value} {T:List Tk} (h:TkIn w w.heap.size lv T) (i:Int) (hk: (tkAt T i).kind=2) (hkk:kindN (tkAt T i).text=5) :
 Calls Tryz.prog 11 #[lv,.int .i64 i] w fun e w'=>OnePost w (oneD T i) e w':=by
 have hin:0≤i∧i < (T.length:Int):=tk_in (by rw[hk];decide)
 have hTl:T.length≤1000000:=by obtain⟨_,_,_,hl,_⟩:=h;exact hl
 have HTL:=Lh hTl
 have HI8:=Lh (show InD T (startD T i) from⟨show 0≤i+1 by omega,show i+1≤(T.length:Int) by omega⟩)
 have HO:=Lh (show oneD T i=if(needD T 4 sSemi (eventD T (startD T i))).er=0 then .ok (needD T 4 sSemi (eventD T (startD T i))).x (needD T 4 sSemi (eventD T (startD T i))).i else .bad (needD T 4 sSemi (eventD T (startD T i))).er (needD T 4 sSemi (eventD T (startD T i))).line (needD T 4 sSemi (eventD T (startD T i))).col by unfold oneD;rw[hkk,if_neg (by rw[hk];decide)];rfl)
 have HIJ:=Lh (show InD T (eventD T (startD T i)) from inD_event HI8.out)
 have HKK:=Lh hkk
 have HK:=Lh hk
 clear hkk hk
 have HS0:=Lh (OneS.start h i)
 have hsz0: (((w.alloc oB5).alloc oB3).alloc (.cells #[lv,.int .i64 i,.int .i64 0,.string ⟨#[]⟩,.int .i64 0,.int .i64 0,.int .i64 0,.slice none 0 0,.string ⟨#[]⟩,.string ⟨#[]⟩,.string ⟨#[]⟩,.int .i64 0,.slice none 0 0,.bool false,.int .i64 0,.int .i64 0,.int .i64 0] 53)).heap.size=w.heap.size+3:=by simp
 have HZ0:=Lh hsz0
 obtain⟨x,hx⟩:∃ x,tkAt T i=x:=⟨_,rfl⟩
 have HX:=Lh hx
 obtain⟨ad,cap,rfl,-,-⟩:=h
 clear hx hsz0
 go_enter Tryz.func11,Tryz.ntmps11
 go_wp2_with fail
 refine(dnow_any HS0.out.rd).mono ?_
 rintro en w1 ⟨rfl,hb1⟩
 rw[show tkAt T (rs0 i).i=x from HX.out]
 unfold tokV
 have HS1:=Lh ((HS0.out.then hb1).alloc (tO x))
 have HT:=Lh (show TkB (w1.alloc (tO x)) w1.heap.size x from heap_alloc_new w1 _)
 have hsz1:w.heap.size+3≤w1.heap.size:=by rw[←HZ0.out];exact hb1.size
 have HZ1:=Lh (show(w1.alloc (tO x)).heap.size=w1.heap.size+1 by simp)
 clear hb1
 obtain⟨t0,t1,t2,t3,t4⟩:=HT.out.facts
 go_wp2_with fail
 refine(drule_any x.text _).mono ?_
 rintro en w2 ⟨rfl,hw⟩
 rw[hw]
 clear hw
 replace HKK:=Lh (show kindN x.text=5 by rw[←HX.out];exact HKK.out)
 have hkb: (x.kind !=2)=false:=by rw[←HX.out,HK.out];rfl
 rw[HKK.out,show ruleF 5=Value.func (.func 41) #[] #[] from rfl]
 have hlo:-9223372036854775808≤i:=by omega
 have hhi:i≤2000000:=by have:=HTL.out;omega
 have hnil:∀ W:World,Sem.run Tryz.prog (binOp .eql 55 (.func (.func 41) #[] #[]) .nilFunc) W=.ok (.bool false) W:=fun W=>by rfl
 clear hTl hin
 obtain⟨_,c1,c2,_,c4,c5,_,_,_,_,_,_,_,_,_,_,_⟩:=HS1.out.rd.facts
 obtain⟨_,f1,f2,_,f4,f5,_,_,_,_,_,_,_,_,_,_,_⟩:=HS1.out.rd.free
 go_upto_region 7 with fail
 go_cut [] (fun wx=>Hid (OneS w wx w.heap.size (.slice ad T.length cap) (.slice none 0 0) (.slice none 0 0) T ⟨i,{ noSt with kind:=5,line:=x.line,col:=x.col },0,0,0⟩))
 case first=>
  go_region
  all_goals
   go_wp2_with fail
   go_meet
   first
   | exact Lh (OneS.drew (HS1.out.next ((((DT.of_rd HS1.out.rd).setKind 5).setLine x.line).setCol x.col)))
   | exact Lh (OneS.drew (HS1.out.next ((((DT.of_rd HS1.out.rd).setLine x.line).setCol x.col).setKind 5)))
 have HS7:=hcut
 clear hcut c1 c2 c4 c5 f1 f2 f4 f5 t0 t1 t2 t3 t4
 obtain⟨_,c1,_,_,_,_,_,_,_,_,_,_,_,_,_,_,_⟩:=HS7.out.rd.facts
 obtain⟨_,f1,_,_,_,_,_,_,_,_,_,_,_,_,_,_,_⟩:=HS7.out.rd.free
 have HS8:=Lh (HS7.out.next ((DT.of_rd HS7.out.rd).setI (i+1)))
 have he8: (⟨i+1,{ noSt with kind:=5,line:=x.line,col:=x.col },0,0,0⟩:RS)=startD T i:=by unfold startD;rw[HX.out,HKK.out]
 unfold Hid at HS8
 rw[show({ (⟨i,{ noSt with kind:=5,line:=x.line,col:=x.col },0,0,0⟩:RS) with i:=i+1 })=startD T i from he8] at HS8
 replace HS8:=Lh HS8
 clear he8
 go_wp2_with fail
 refine(devent_any HS8.out.rd rfl HS8.out.size HI8.out).mono ?_
 obtain⟨r3,hr3⟩:∃ q,eventD T (startD T i)=q:=⟨_,rfl⟩
 unfold Hid at HO HIJ
 rw[hr3] at HO HIJ ⊢
 replace HO:=Lh HO
 replace HIJ:=Lh HIJ
 rintro en w4 ⟨rfl,nv,hc⟩
 obtain⟨ad5,cap5,hv5⟩:=owns_len hc.rd.nm
 obtain⟨n5,hn5⟩:∃ n,r3.x.names.length=n:=⟨_,rfl⟩
 rw[hn5] at hv5
 clear hn5
 subst hv5
 have HS9:=Lh (HS8.out.next hc)
 clear hc hr3 HS8 HS7 HS1 c1 f1
 go_wp2_with fail
 refine(dneed_any HS9.out.rd HS9.out.size 4 sSemi (bndD HIJ.out HTL.out).1 (bndD HIJ.out HTL.out).2).mono ?_
 obtain⟨r4,hr4⟩:∃ q,needD T 4 sSemi r3=q:=⟨_,rfl⟩
 unfold Hid at HO
 rw[hr4] at HO ⊢
 replace HO:=Lh HO
 rintro en w5 ⟨rfl,hc⟩
 have HS10:=Lh (HS9.out.next hc)
 clear hc hr4 HS9
 go_wp2_with fail
 refine(dwell_any HS10.out.rd).mono ?_
 rintro en w6 ⟨rfl,hw⟩
 rw[hw]
 clear hw
 obtain⟨c0,c1,c2,c3,c4,c5,c6,c7,c8,c9,c10,c11,c12,c13,c14,c15,c16⟩:=HS10.out.rd.facts
 obtain⟨a0,a1,a2,a3,a4,a5,a6,a7,a8,a9,a10,a11⟩:=HS10.out.st.facts
 obtain⟨b0,b1,b2,b3,b4,b5,b6,b7,b8,b9,b10,b11⟩:=HS10.out.st.free
 obtain⟨d0,d1,d2⟩:=HS10.out.ft.facts
 obtain⟨g0,g1,g2⟩:=HS10.out.ft.free
 by_cases h0:r4.er=0
 · replace HO:=Lh (HO.out.trans (if_pos h0))
   rw[decide_eq_true h0]
   have HBD:=Lh HS10.out.good.out
   clear h0 c14 c15 c16
   go_wp2
   go_region
   go_wp2
   refine bodyPost_ret (one_results HBD.out.1.drew HBD.out.2.1.drew r4.i rfl rfl rfl) rfl ?_
   rw[HO.out]
   exact⟨_,_,rfl,HBD.out.2.2.1.drew,HBD.out.2.2.2.1.drew,HBD.out.2.2.2.2.drew⟩
 · replace HO:=Lh (HO.out.trans (if_neg h0))
   rw[decide_eq_false h0]
   have HBD:=Lh (HS10.out.bad r4.er r4.line r4.col).out
   clear h0
   go_wp2
   go_region
   go_wp2
   refine bodyPost_ret (one_results HBD.out.1.drew HBD.out.2.1.drew 0 rfl rfl rfl) rfl ?_
   rw[HO.out]
   exact⟨rfl,HBD.out.2.2.drew⟩
end Go.Proofs.YthlofmnmacpogaaGreatDoor
