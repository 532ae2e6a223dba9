/- A part of a proof of DeclReadsProof. -/
import Derived.Test.YthlofmnmacpogaaGreatDoorRt34
import Derived.Deep.RegionHeld3
import Derived.Test.YthlofmnmacpogaaGreatDoorRt18
import Derived.Test.YthlofmnmacpogaaGreatDoorRt32
set_option maxRecDepth 100000
set_option maxHeartbeats 40000000
namespace Go.Proofs.YthlofmnmacpogaaGreatDoor
open Go.RowKit
theorem run_loadP {w:World} {b:Nat} {r:RS} {a1 a2:Option Addr} {n1 n2 k1 k2:Nat} (hp:PB w b r (.slice a1 n1 k1) (.slice a2 n2 k2)): (Instr.loadAt 62 (.pointer (some ⟨b,0,none⟩))).run Tryz.prog w=.ok (pvV r (.slice a1 n1 k1) (.slice a2 n2 k2)) w:=by
 obtain⟨c0,c1,c2,c3,c4,c5,c6,c7,c8,c9,c10,c11,c12,c13,c14,c15⟩:=hp.facts
 simp[go_sem,c0,c1,c2,c3,c4,c5,c6,c7,c8,c9,c10,c11,c12,c13,c14,c15,pvV]
theorem run_storeP {w:World} {b:Nat} {r:RS} {a1 a2:Option Addr} {n1 n2 k1 k2:Nat} (s:RS) {nv iv:Value} (hp:PB w b r nv iv): (Instr.storeAt 62 (.pointer (some ⟨b,0,none⟩)) (pvV s (.slice a1 n1 k1) (.slice a2 n2 k2))).run Tryz.prog w=.ok () (stP w b s (.slice a1 n1 k1) (.slice a2 n2 k2)):=by
 obtain⟨c0,c1,c2,c3,c4,c5,c6,c7,c8,c9,c10,c11,c12,c13,c14,c15⟩:=hp.facts
 obtain⟨z0,z1,z2,z3,z4,z5,z6,z7,z8,z9,z10,z11,z12,z13,z14,z15⟩:=hp.free
 simp[go_sem,c0,c1,c2,c3,c4,c5,c6,c7,c8,c9,c10,c11,c12,c13,c14,c15,z0,z1,z2,z3,z4,z5,z6,z7,z8,z9,z10,z11,z12,z13,z14,z15,pvV,stP]
structure KeptP (w w':World) (b:Nat):Prop where
 os:w'.os=w.os
 tape:w'.tape=w.tape
 output:w'.output=w.output
 size:w'.heap.size=w.heap.size
 block:∀ k,k≠b→w'.heap[k]?=w.heap[k]?
theorem KeptP.pb {w w':World} {b:Nat} (h:KeptP w w' b) {k:Nat} {r:RS} {nv iv:Value} (hp:PB w k r nv iv) (hne:k≠b):PB w' k r nv iv:=(h.block k hne).trans hp
theorem KeptP.below {w w':World} {b:Nat} (h:KeptP w w' b) {B:Nat} {w0:World} (hb:Below B w0 w) (hB:B≤b):Below B w0 w':=
 ⟨h.os.trans hb.os,h.tape.trans hb.tape,h.output.trans hb.output,by rw[h.size];exact hb.size,fun k hk=>(h.block k (by omega)).trans (hb.block k hk)⟩
theorem KeptP.cell (w:World) (b j:Nat) (v:Value):KeptP w (w.setCell ⟨b,j,none⟩ v) b:=⟨rfl,rfl,rfl,World.size_setCell _ _ _,fun _ hk=>Below.heap_setCell _ _ _ _ hk⟩
theorem KeptP.trans {w w' w'':World} {b:Nat} (h:KeptP w w' b) (h':KeptP w' w'' b):KeptP w w'' b:=⟨h'.os.trans h.os,h'.tape.trans h.tape,h'.output.trans h.output,h'.size.trans h.size,fun k hk=>(h'.block k hk).trans (h.block k hk)⟩
theorem KeptP.stP (w:World) (b:Nat) (s:RS) (nv iv:Value):KeptP w (stP w b s nv iv) b:=by
 unfold Proofs.YthlofmnmacpogaaGreatDoor.stP
 exact(((((((((((((((KeptP.cell _ b 0 _).trans (KeptP.cell _ b 1 _)).trans (KeptP.cell _ b 2 _)).trans (KeptP.cell _ b 3 _)).trans (KeptP.cell _ b 4 _)).trans (KeptP.cell _ b 5 _)).trans (KeptP.cell _ b 6 _)).trans (KeptP.cell _ b 7 _)).trans (KeptP.cell _ b 8 _)).trans (KeptP.cell _ b 9 _)).trans (KeptP.cell _ b 10 _)).trans (KeptP.cell _ b 11 _)).trans (KeptP.cell _ b 12 _)).trans (KeptP.cell _ b 13 _)).trans (KeptP.cell _ b 14 _)).trans (KeptP.cell _ b 15 _)
theorem lP {ops:Array Oper} {rest:List Oper} {o:Oper} {a:Act} {Q:Exit→Act→World→Prop} {x:Operand} {w:World} {b:Nat} {r:RS} {a1 a2:Option Addr} {n1 n2 k1 k2:Nat} (hg:o.guard=none) (ho:o.op=.load 62 x) (hx:a.eval x=.pointer (some ⟨b,0,none⟩))
 (hp:PB w b r (.slice a1 n1 k1) (.slice a2 n2 k2)) (h:wpList Tryz.prog ops Q rest (a.put o.dst (pvV r (.slice a1 n1 k1) (.slice a2 n2 k2))) w):wpList Tryz.prog ops Q (o :: rest) a w:=by
 refine wpList_plain hg fun K hK=>?_
 unfold Oper.wp execOp
 simp only[ho,Sem.run_bind,Sem.run_pure,Result.andThen_ok,hx,run_loadP hp]
 exact hK _ _ h
theorem sP {ops:Array Oper} {rest:List Oper} {o:Oper} {a:Act} {Q:Exit→Act→World→Prop} {x y:Operand} {w:World} {b:Nat} {r:RS} {a1 a2:Option Addr} {n1 n2 k1 k2:Nat} {s:RS} {nv iv:Value} (hg:o.guard=none) (ho:o.op=.store 62 x y) (hx:a.eval x=.pointer (some ⟨b,0,none⟩)) (hy:a.eval y=pvV s (.slice a1 n1 k1) (.slice a2 n2 k2))
 (hp:PB w b r nv iv) (h:Hid (∀ W',PB W' b s (.slice a1 n1 k1) (.slice a2 n2 k2)→KeptP w W' b→wpList Tryz.prog ops Q rest (a.put o.dst undef) W')):wpList Tryz.prog ops Q (o :: rest) a w:=by
 refine wpList_plain hg fun K hK=>?_
 unfold Oper.wp execOp
 simp only[ho,Sem.run_bind,Sem.run_pure,Result.andThen_ok,hx,hy,run_storeP s hp]
 exact hK _ _ (h.out _ (hp.stored s (.slice a1 n1 k1) (.slice a2 n2 k2)) (KeptP.stP _ _ _ _ _))
theorem run_resP {F:Func} {tmps:Array Value} {k:Nat} {w:World} {b:Nat} {r:RS} {a1 a2:Option Addr} {n1 n2 k1 k2:Nat} (hF:F.results= #[.cell k 62]) (hk:tmps[k]?.getD undef=.pointer (some ⟨b,0,none⟩)) (hp:PB w b r (.slice a1 n1 k1) (.slice a2 n2 k2)): (results F tmps).run Tryz.prog w=.ok (pvV r (.slice a1 n1 k1) (.slice a2 n2 k2)) w:=by
 obtain⟨c0,c1,c2,c3,c4,c5,c6,c7,c8,c9,c10,c11,c12,c13,c14,c15⟩:=hp.facts
 simp[results,hF,go_sem,hk,pvV,c0,c1,c2,c3,c4,c5,c6,c7,c8,c9,c10,c11,c12,c13,c14,c15]
theorem rdbad_any {w:World} {B:Nat} {lv:Value} {T:List Tk} (h:TkIn w B lv T) (hB:B≤w.heap.size) (r:RS) {nv iv:Value} (hnv:SlV nv) (hiv:SlV iv) (e:Int) :
 Calls Tryz.prog 24 #[lv,pvV r nv iv,.int .i64 e] w fun en w'=>en=.returned (pvV (failD T e r) nv iv)∧Below w.heap.size w w':=by
 have hfd:∀ (w:World) (x:Tk),(Instr.field 48 (.agg #[.int .i64 x.kind,.string x.text,.int .i64 x.num,.int .i64 x.line,.int .i64 x.col]) 3).run Tryz.prog w=.ok (.agg #[.int .i64 x.line,.int .i64 x.col]) w:=fun _ _=>by kernel_rfl
 obtain⟨ad1,n1,cap1,rfl⟩:=hnv
 obtain⟨ad2,n2,cap2,rfl⟩:=hiv
 have PE:=pent w r (.slice ad1 n1 cap1) (.slice ad2 n2 cap2)
 obtain⟨W0,hW0⟩:∃ W,((w.alloc (.cells #[.int .i64 r.x.kind,.string r.x.name,.int .i64 r.x.line,.int .i64 r.x.col,.int .i64 r.x.init,.slice ad1 n1 cap1,.string r.x.role,.string r.x.stage,.string r.x.event,.int .i64 r.x.times,.slice ad2 n2 cap2,.bool r.x.final,.int .i64 r.i,.int .i64 r.er,.int .i64 r.line,.int .i64 r.col] 62)).alloc oB4)=W:=⟨_,rfl⟩
 rw[hW0] at PE
 have p0:=PE.p
 have q0:=PE.q
 have HB0:=Lh PE.lo
 clear PE
 obtain⟨c0,c1,c2,c3,c4,c5,c6,c7,c8,c9,c10,c11,c12,c13,c14,c15⟩:=p0.facts
 obtain⟨y0,y1,y2,y3,y4,y5,y6,y7,y8,y9,y10,y11,y12,y13,y14,y15⟩:=p0.free
 rw[pv_is r]
 by_cases he:r.er=0
 · have HU:Hid (failD T e r=setBad e (tkAt T r.i).line (tkAt T r.i).col r):=by unfold Hid failD;rw[if_pos he];rfl
   have HT:=Lh (rdtok_any (h.below (HB0.out.mono hB)) r.i)
   obtain⟨x,hx⟩:∃ x,tkAt T r.i=x:=⟨_,rfl⟩
   have HX:=Lh hx
   have heb: (r.er == 0)=true:=by rw[beq_iff_eq];exact he
   clear h hx he
   go_enter Tryz.func24,Tryz.ntmps24
   go_wp2_with (first| (refine lP rfl rfl rfl (by assumption) ?_)| (refine sP rfl rfl rfl rfl (by assumption) ?_)|fail)
   refine HT.out.mono ?_
   rintro en w1 ⟨rfl,hb1⟩
   rw[HX.out]
   unfold tokV
   have p1:=p0.below hb1
   have q1:=q0.below hb1
   obtain⟨e0,e1,e2,e3,e4,e5,e6,e7,e8,e9,e10,e11,e12,e13,e14,e15⟩:=p1.facts
   obtain⟨v0,v1,v2,v3,v4,v5,v6,v7,v8,v9,v10,v11,v12,v13,v14,v15⟩:=p1.free
   obtain⟨W2,hW2⟩:∃ W,(((w1.setCell ⟨w.heap.size,13,none⟩ (.int .i64 e)).setCell ⟨w.heap.size,14,none⟩ (.int .i64 x.line)).setCell ⟨w.heap.size,15,none⟩ (.int .i64 x.col))=W:=⟨_,rfl⟩
   have p2:=p1.putF e x.line x.col
   have q2:=((q1.over (show w.heap.size+1≠w.heap.size by omega) (.int .i64 e) (j:=13)).over (show w.heap.size+1≠w.heap.size by omega) (.int .i64 x.line) (j:=14)).over (show w.heap.size+1≠w.heap.size by omega) (.int .i64 x.col) (j:=15)
   have hb2:=((HB0.out.trans (hb1.mono HB0.out.size)).setCell (p:=⟨w.heap.size,13,none⟩) (Nat.le_refl _) (.int .i64 e)).setCell (p:=⟨w.heap.size,14,none⟩) (Nat.le_refl _) (.int .i64 x.line) |>.setCell (p:=⟨w.heap.size,15,none⟩) (Nat.le_refl _) (.int .i64 x.col)
   rw[hW2] at p2 q2 hb2
   have HB2:=Lh hb2
   clear hb1 p1 q1 hb2 p0 q0
   go_wp2_with (first| (refine lP rfl rfl rfl (by assumption) ?_)| (refine sP rfl rfl rfl rfl (by assumption) ?_)|fail)
   unfold Hid
   intro W9 qe ke
   have hbe:=ke.below HB2.out (show w.heap.size≤w.heap.size+1 by omega)
   go_wp2
   exact bodyPost_ret (run_resP (by rfl) (by rfl) qe) rfl ⟨by rw[HU.out,HX.out],hbe⟩
 · have HU:Hid (failD T e r=r):=by unfold Hid failD;rw[if_neg he]
   have heb: (r.er == 0)=false:=beq_eq_false_iff_ne.2 he
   clear h he
   go_enter Tryz.func24,Tryz.ntmps24
   go_wp2_with (first| (refine lP rfl rfl rfl (by assumption) ?_)| (refine sP rfl rfl rfl rfl (by assumption) ?_)|fail)
   unfold Hid
   intro W9 qe ke
   have hbe:=ke.below HB0.out (show w.heap.size≤w.heap.size+1 by omega)
   go_wp2
   exact bodyPost_ret (run_resP (by rfl) (by rfl) qe) rfl ⟨by rw[HU.out],hbe⟩
theorem rdmust_any {w:World} {B:Nat} {lv:Value} {T:List Tk} (h:TkIn w B lv T) (hB:B≤w.heap.size) (r:RS) {nv iv:Value} (hnv:SlV nv) (hiv:SlV iv) (k:Int) (s:ByteArray) (hi:r.er=0→InD T r) :
 Calls Tryz.prog 28 #[lv,pvV r nv iv,.int .i64 k,.string s] w fun en w'=>en=.returned (pvV (needD T k s r) nv iv)∧Below w.heap.size w w':=by
 obtain⟨ad1,n1,cap1,rfl⟩:=hnv
 obtain⟨ad2,n2,cap2,rfl⟩:=hiv
 have PE:=pent w r (.slice ad1 n1 cap1) (.slice ad2 n2 cap2)
 obtain⟨W0,hW0⟩:∃ W,((w.alloc (.cells #[.int .i64 r.x.kind,.string r.x.name,.int .i64 r.x.line,.int .i64 r.x.col,.int .i64 r.x.init,.slice ad1 n1 cap1,.string r.x.role,.string r.x.stage,.string r.x.event,.int .i64 r.x.times,.slice ad2 n2 cap2,.bool r.x.final,.int .i64 r.i,.int .i64 r.er,.int .i64 r.line,.int .i64 r.col] 62)).alloc oB4)=W:=⟨_,rfl⟩
 rw[hW0] at PE
 have p0:=PE.p
 have q0:=PE.q
 have HB0:=Lh PE.lo
 clear PE
 obtain⟨c0,c1,c2,c3,c4,c5,c6,c7,c8,c9,c10,c11,c12,c13,c14,c15⟩:=p0.facts
 obtain⟨y0,y1,y2,y3,y4,y5,y6,y7,y8,y9,y10,y11,y12,y13,y14,y15⟩:=p0.free
 rw[pv_is r]
 by_cases he:r.er=0
 · have heb: (r.er !=0)=false:=by simpa using he
   have HI:=Lh (rdis_any (h.below (HB0.out.mono hB)) (Nat.le_trans hB HB0.out.size) r.i k s)
   have HTK:Hid (∀ W,Below w.heap.size w W→TkIn W B lv T):=fun W hW=>h.below (hW.mono hB)
   have HBB:=Lh hB
   cases hq:isTk T r.i k s
   · have HU:Hid (failD T 4 r=needD T k s r):=by unfold Hid needD mayB;rw[hq,Bool.and_false];rfl
     rw[hq] at HI
     clear h hB he hq hi
     go_enter Tryz.func28,Tryz.ntmps28
     go_wp2_with (first| (refine lP rfl rfl rfl (by assumption) ?_)| (refine sP rfl rfl rfl rfl (by assumption) ?_)|fail)
     refine HI.out.mono ?_
     rintro en w1 ⟨rfl,hb1⟩
     have p1:=p0.below hb1
     have q1:=q0.below hb1
     have HB1:=Lh (HB0.out.trans (hb1.mono HB0.out.size))
     have HBD:=Lh (rdbad_any (HTK.out _ HB1.out) (Nat.le_trans HBB.out HB1.out.size) r (nv:=(.slice ad1 n1 cap1)) (iv:=(.slice ad2 n2 cap2)) ⟨_,_,_,rfl⟩ ⟨_,_,_,rfl⟩ 4)
     clear hb1 p0 q0
     go_wp2_with (first| (refine lP rfl rfl rfl (by assumption) ?_)| (refine sP rfl rfl rfl rfl (by assumption) ?_)|fail)
     rw[pv_is r] at HBD
     refine HBD.out.mono ?_
     rintro en w2 ⟨rfl,hb2⟩
     rw[HU.out]
     have q2:=q1.below hb2
     have HB2:=Lh (HB1.out.trans (hb2.mono HB1.out.size))
     clear hb2 q1 p1
     go_wp2_with (first| (refine lP rfl rfl rfl (by assumption) ?_)| (refine sP rfl rfl rfl rfl (by assumption) ?_)|fail)
     unfold Hid
     intro W9 qe ke
     have hbe:=ke.below HB2.out (show w.heap.size≤w.heap.size+1 by omega)
     go_wp2
     exact bodyPost_ret (run_resP (by rfl) (by rfl) qe) rfl ⟨rfl,hbe⟩
   · have HU:Hid (needD T k s r= { r with i:=r.i+1 }):=by unfold Hid needD mayB;rw[hq,decide_eq_true he];rfl
     rw[hq] at HI
     have hi:=hi he
     have hT:T.length≤1000000:=by obtain⟨_,_,_,hl,_⟩:=h;exact hl
     have hi0:=hi.1
     have hi1:=hi.2
     have hwr:IntKind.i64.wrap (r.i+1)=r.i+1:=IntWalk.i64_in _ ⟨by omega,by omega⟩
     clear h hB he hq hi hT hi0 hi1
     go_enter Tryz.func28,Tryz.ntmps28
     go_wp2_with (first| (refine lP rfl rfl rfl (by assumption) ?_)| (refine sP rfl rfl rfl rfl (by assumption) ?_)|fail)
     refine HI.out.mono ?_
     rintro en w1 ⟨rfl,hb1⟩
     have p1:=p0.below hb1
     have q1:=q0.below hb1
     obtain⟨e0,e1,e2,e3,e4,e5,e6,e7,e8,e9,e10,e11,e12,e13,e14,e15⟩:=p1.facts
     obtain⟨v0,v1,v2,v3,v4,v5,v6,v7,v8,v9,v10,v11,v12,v13,v14,v15⟩:=p1.free
     obtain⟨W2,hW2⟩:∃ W,(w1.setCell ⟨w.heap.size,12,none⟩ (.int .i64 (r.i+1)))=W:=⟨_,rfl⟩
     have p2:=p1.putI (r.i+1)
     have q2:=q1.over (show w.heap.size+1≠w.heap.size by omega) (.int .i64 (r.i+1)) (j:=12)
     have hb2:=(HB0.out.trans (hb1.mono HB0.out.size)).setCell (p:=⟨w.heap.size,12,none⟩) (Nat.le_refl _) (.int .i64 (r.i+1))
     rw[hW2] at p2 q2 hb2
     have HB2:=Lh hb2
     clear hb1 p1 q1 hb2 p0 q0
     go_wp2_with (first| (refine lP rfl rfl rfl (by assumption) ?_)| (refine sP rfl rfl rfl rfl (by assumption) ?_)|fail)
     unfold Hid
     intro W9 qe ke
     have hbe:=ke.below HB2.out (show w.heap.size≤w.heap.size+1 by omega)
     go_wp2
     exact bodyPost_ret (run_resP (by rfl) (by rfl) qe) rfl ⟨by rw[HU.out],hbe⟩
 · have HU:Hid (needD T k s r=r):=by unfold Hid needD mayB failD;rw[decide_eq_false he,Bool.false_and,if_neg he];rfl
   have heb: (r.er !=0)=true:=by simpa using he
   clear h he hi
   go_enter Tryz.func28,Tryz.ntmps28
   go_wp2_with (first| (refine lP rfl rfl rfl (by assumption) ?_)| (refine sP rfl rfl rfl rfl (by assumption) ?_)|fail)
   unfold Hid
   intro W9 qe ke
   have hbe:=ke.below HB0.out (show w.heap.size≤w.heap.size+1 by omega)
   go_wp2
   exact bodyPost_ret (run_resP (by rfl) (by rfl) qe) rfl ⟨by rw[HU.out],hbe⟩
theorem run_resN {F:Func} {tmps:Array Value} {k j:Nat} {s:ByteArray} {w:World} {b:Nat} {r:RS} {ad1 ad2:Option Addr} {n1 n2 cap1 cap2:Nat} (hF:F.results= #[.cell k 62,.tmp j]) (hk:tmps[k]?.getD undef=.pointer (some ⟨b,0,none⟩)) (hj:tmps[j]?.getD undef=.string s) (hp:PB w b r (.slice ad1 n1 cap1) (.slice ad2 n2 cap2)): (results F tmps).run Tryz.prog w=.ok (.tuple #[pvV r (.slice ad1 n1 cap1) (.slice ad2 n2 cap2),.string s]) w:=by
 obtain⟨c0,c1,c2,c3,c4,c5,c6,c7,c8,c9,c10,c11,c12,c13,c14,c15⟩:=hp.facts
 simp[results,hF,go_sem,hk,hj,pvV,c0,c1,c2,c3,c4,c5,c6,c7,c8,c9,c10,c11,c12,c13,c14,c15]
theorem rdname_any {w:World} {B:Nat} {lv:Value} {T:List Tk} (h:TkIn w B lv T) (hB:B≤w.heap.size) (r:RS) {nv iv:Value} (hnv:SlV nv) (hiv:SlV iv) (hi:r.er=0→InD T r) :
 Calls Tryz.prog 46 #[lv,pvV r nv iv] w fun en w'=>en=.returned (.tuple #[pvV (nameD T r) nv iv,.string (nameV T r)])∧Below w.heap.size w w':=by
 obtain⟨ad1,n1,cap1,rfl⟩:=hnv
 obtain⟨ad2,n2,cap2,rfl⟩:=hiv
 have PE:=pent w r (.slice ad1 n1 cap1) (.slice ad2 n2 cap2)
 obtain⟨W0,hW0⟩:∃ W,((w.alloc (.cells #[.int .i64 r.x.kind,.string r.x.name,.int .i64 r.x.line,.int .i64 r.x.col,.int .i64 r.x.init,.slice ad1 n1 cap1,.string r.x.role,.string r.x.stage,.string r.x.event,.int .i64 r.x.times,.slice ad2 n2 cap2,.bool r.x.final,.int .i64 r.i,.int .i64 r.er,.int .i64 r.line,.int .i64 r.col] 62)).alloc oB4)=W:=⟨_,rfl⟩
 rw[hW0] at PE
 have p0:=PE.p
 have q0:=PE.q
 have HB0:=Lh PE.lo
 clear PE
 obtain⟨c0,c1,c2,c3,c4,c5,c6,c7,c8,c9,c10,c11,c12,c13,c14,c15⟩:=p0.facts
 obtain⟨y0,y1,y2,y3,y4,y5,y6,y7,y8,y9,y10,y11,y12,y13,y14,y15⟩:=p0.free
 rw[pv_is r]
 by_cases he:r.er=0
 · have heb: (r.er !=0)=false:=by simpa using he
   have HT:Hid (∀ W,Below w.heap.size w W→∀ j,Calls Tryz.prog 22 #[lv,.int .i64 j] W fun e w'=>e=.returned (tokV (tkAt T j))∧Below W.heap.size W w'):=fun W hW j=>rdtok_any (h.below (hW.mono hB)) j
   have HBD:Hid (∀ W,Below w.heap.size w W→Calls Tryz.prog 24 #[lv,pvV r (.slice ad1 n1 cap1) (.slice ad2 n2 cap2),.int .i64 4] W fun en w'=>en=.returned (pvV (failD T 4 r) (.slice ad1 n1 cap1) (.slice ad2 n2 cap2))∧Below W.heap.size W w'):=fun W hW=>rdbad_any (h.below (hW.mono hB)) (Nat.le_trans hB hW.size) r ⟨_,_,_,rfl⟩ ⟨_,_,_,rfl⟩ 4
   obtain⟨x,hx⟩:∃ x,tkAt T r.i=x:=⟨_,rfl⟩
   have HX:=Lh hx
   obtain⟨hf0,hf1⟩:=tk_fields x
   by_cases hk:x.kind=1
   · have hkb: (x.kind !=1)=false:=by simpa using hk
     have HU:Hid (nameD T r= { r with i:=r.i+1 }∧nameV T r=x.text):=by
      have hkk:kindB T 1 r=true:=by unfold kindB;rw[hx,decide_eq_true hk,decide_eq_true he];rfl
      exact⟨by unfold nameD takeD;rw[if_pos hkk],by unfold nameV;rw[if_pos hkk,hx]⟩
     have hi:=hi he
     have hT:T.length≤1000000:=by obtain⟨_,_,_,hl,_⟩:=h;exact hl
     have hi0:=hi.1
     have hi1:=hi.2
     have hwr:IntKind.i64.wrap (r.i+1)=r.i+1:=IntWalk.i64_in _ ⟨by omega,by omega⟩
     have hwr2:IntKind.i64.wrap r.i=r.i:=IntWalk.i64_in _ ⟨by omega,by omega⟩
     clear h hB he hx hk hi hT hi0 hi1
     go_enter Tryz.func46,Tryz.ntmps46
     go_wp2_with (first| (refine lP rfl rfl rfl (by assumption) ?_)| (refine sP rfl rfl rfl rfl (by assumption) ?_)|fail)
     refine(HT.out _ HB0.out r.i).mono ?_
     rintro en w1 ⟨rfl,hb1⟩
     rw[HX.out]
     unfold tokV
     have p1:=p0.below hb1
     have q1:=q0.below hb1
     obtain⟨e0,e1,e2,e3,e4,e5,e6,e7,e8,e9,e10,e11,e12,e13,e14,e15⟩:=p1.facts
     obtain⟨v0,v1,v2,v3,v4,v5,v6,v7,v8,v9,v10,v11,v12,v13,v14,v15⟩:=p1.free
     obtain⟨W2,hW2⟩:∃ W,(w1.setCell ⟨w.heap.size,12,none⟩ (.int .i64 (r.i+1)))=W:=⟨_,rfl⟩
     have p2:=p1.putI (r.i+1)
     have q2:=q1.over (show w.heap.size+1≠w.heap.size by omega) (.int .i64 (r.i+1)) (j:=12)
     have hb2:=(HB0.out.trans (hb1.mono HB0.out.size)).setCell (p:=⟨w.heap.size,12,none⟩) (Nat.le_refl _) (.int .i64 (r.i+1))
     rw[hW2] at p2 q2 hb2
     have HB2:=Lh hb2
     obtain⟨d0,d1,d2,d3,d4,d5,d6,d7,d8,d9,d10,d11,d12,d13,d14,d15⟩:=p2.facts
     obtain⟨u0,u1,u2,u3,u4,u5,u6,u7,u8,u9,u10,u11,u12,u13,u14,u15⟩:=q2.free
     obtain⟨o0,o1,o2,o3,o4,o5,o6,o7,o8,o9,o10,o11,o12,o13,o14,o15⟩:=q2.facts
     have P2:=Lh p2
     have Q2:=Lh q2
     clear hb1 p1 q1 hb2 p0 q0 p2 q2
     go_wp2_with (first| (refine lP rfl rfl rfl (by assumption) ?_)| (refine sP rfl rfl rfl rfl (by assumption) ?_)|fail)
     go_region_law (first
      | (go_simp;go_at_call 22;(with_reducible refine(HT.out _ (HB2.out.drew) r.i).mono ?_)
         rintro en w3 ⟨rfl,hb3⟩
         rw[HX.out]
         unfold tokV
         have p3:=P2.out.drew.below hb3
         have q3:=Q2.out.drew.below hb3
         obtain⟨t0,t1,t2,t3,t4,t5,t6,t7,t8,t9,t10,t11,t12,t13,t14,t15⟩:=p3.facts
         obtain⟨g0,g1,g2,g3,g4,g5,g6,g7,g8,g9,g10,g11,g12,g13,g14,g15⟩:=q3.free
         obtain⟨l0,l1,l2,l3,l4,l5,l6,l7,l8,l9,l10,l11,l12,l13,l14,l15⟩:=q3.facts
         have Q3:=Lh q3
         have HB3:=Lh (HB2.out.drew.trans (hb3.mono HB2.out.drew.size))
         clear hb3 p3 q3))
     all_goals
      go_wp2
      rw[stP_is (r:={ r with i:=r.i+1 })]
      have qe:=Q3.out.stored { r with i:=r.i+1 } (.slice ad1 n1 cap1) (.slice ad2 n2 cap2)
      have hbe:=below_stP HB3.out (show w.heap.size≤w.heap.size+1 by omega) { r with i:=r.i+1 } (.slice ad1 n1 cap1) (.slice ad2 n2 cap2)
      exact bodyPost_ret (run_resN (by rfl) (by rfl) (by rfl) qe) rfl ⟨by rw[HU.out.1,HU.out.2],hbe⟩
   · have hkb: (x.kind !=1)=true:=by simpa using hk
     have HU:Hid (failD T 4 r=nameD T r∧(⟨#[]⟩:ByteArray)=nameV T r):=by
      have hkk:¬kindB T 1 r=true:=by unfold kindB;rw[hx,decide_eq_false hk,Bool.false_and];decide
      exact⟨by unfold nameD takeD;rw[if_neg hkk,hx,if_neg hk],by unfold nameV;rw[if_neg hkk]⟩
     clear h hB he hx hk hi
     rw[pv_is r] at HBD
     go_enter Tryz.func46,Tryz.ntmps46
     go_wp2_with (first| (refine lP rfl rfl rfl (by assumption) ?_)| (refine sP rfl rfl rfl rfl (by assumption) ?_)|fail)
     refine(HT.out _ HB0.out r.i).mono ?_
     rintro en w1 ⟨rfl,hb1⟩
     rw[HX.out]
     unfold tokV
     have p1:=p0.below hb1
     have q1:=q0.below hb1
     have HB1:=Lh (HB0.out.trans (hb1.mono HB0.out.size))
     clear hb1 p0 q0
     go_wp2_with (first| (refine lP rfl rfl rfl (by assumption) ?_)| (refine sP rfl rfl rfl rfl (by assumption) ?_)|fail)
     refine(HBD.out _ HB1.out).mono ?_
     rintro en w2 ⟨rfl,hb2⟩
     rw[HU.out.1]
     have q2:=q1.below hb2
     have HB2:=Lh (HB1.out.trans (hb2.mono HB1.out.size))
     clear hb2 q1 p1
     go_wp2_with (first| (refine lP rfl rfl rfl (by assumption) ?_)| (refine sP rfl rfl rfl rfl (by assumption) ?_)|fail)
     unfold Hid
     intro W9 qe ke
     have hbe:=ke.below HB2.out (show w.heap.size≤w.heap.size+1 by omega)
     go_wp2
     exact bodyPost_ret (run_resN (by rfl) (by rfl) (by rfl) qe) rfl ⟨by rw[←HU.out.2],hbe⟩
 · have HU:Hid (nameD T r=r∧nameV T r= ⟨#[]⟩):=by
    have hkk:¬kindB T 1 r=true:=by unfold kindB;rw[decide_eq_false he,Bool.and_false];decide
    refine⟨?_,by unfold nameV;rw[if_neg hkk]⟩
    unfold nameD takeD failD
    rw[if_neg hkk,if_neg he]
    split <;> rfl
   have heb: (r.er !=0)=true:=by simpa using he
   clear h he hi
   go_enter Tryz.func46,Tryz.ntmps46
   go_wp2_with (first| (refine lP rfl rfl rfl (by assumption) ?_)| (refine sP rfl rfl rfl rfl (by assumption) ?_)|fail)
   unfold Hid
   intro W9 qe ke
   have hbe:=ke.below HB0.out (show w.heap.size≤w.heap.size+1 by omega)
   go_wp2
   exact bodyPost_ret (run_resN (by rfl) (by rfl) (by rfl) qe) rfl ⟨by rw[HU.out.1,HU.out.2],hbe⟩
theorem takeD_x (T:List Tk) (k:Int) (r:RS): (takeD T k r).x=r.x:=by
 unfold takeD failD
 split
 · rfl
 · split
   · rfl
   · split <;> rfl
theorem KeptP.own {w w':World} {b:Nat} (k:KeptP w w' b) {r:RS} {nv iv:Value} (hp:PB w b r nv iv) {base sz n:Nat} {t:TypeId} {v:Value} {xs:List Value} (ht:62≠t) (hr:w.ownsRow base t sz v n xs):w'.ownsRow base t sz v n xs:=by
 refine⟨hr.1,?_⟩
 rcases hr.2 with h0| ⟨g,cap,cur,hv,hb,hg,rest⟩
 · exact .inl h0
 · refine .inr ⟨g,cap,cur,hv,hb,(k.block g ?_).trans hg,rest⟩
   rintro rfl
   unfold PB at hp
   rw[hp] at hg
   simp only[Option.some.injEq,Obj.cells.injEq] at hg
   exact ht hg.2.1
theorem KeptP.nm {w w':World} {b:Nat} (k:KeptP w w' b) {r:RS} {nv iv:Value} (hp:PB w b r nv iv) {v:Value} {l:List ByteArray} (hr:NmRow w v l):NmRow w' v l:=by
 obtain⟨B,hr⟩:=hr;exact⟨B,k.own hp (by decide) hr⟩
theorem KeptP.it {w w':World} {b:Nat} (k:KeptP w w' b) {r:RS} {nv iv:Value} (hp:PB w b r nv iv) {v:Value} {l:List It} (hr:ItRow w v l):ItRow w' v l:=by
 obtain⟨B,hr⟩:=hr;exact⟨B,k.own hp (by decide) hr⟩
def firstR (T:List Tk) (r:RS):RS:=if r.x.kind=6 then setStage (nameV T r) (nameD T r) else setName (nameV T r) (nameD T r)
theorem rdfirst_any {w:World} {B:Nat} {lv:Value} {T:List Tk} (h:TkIn w B lv T) (hB:B≤w.heap.size) (r:RS) {nv iv:Value} (hnv:SlV nv) (hiv:SlV iv) (hi:r.er=0→InD T r) :
 Calls Tryz.prog 26 #[lv,pvV r nv iv] w fun en w'=>en=.returned (pvV (firstR T r) nv iv)∧Below w.heap.size w w':=by
 obtain⟨ad1,n1,cap1,rfl⟩:=hnv
 obtain⟨ad2,n2,cap2,rfl⟩:=hiv
 have PE:=pent w r (.slice ad1 n1 cap1) (.slice ad2 n2 cap2)
 obtain⟨W0,hW0⟩:∃ W,((w.alloc (.cells #[.int .i64 r.x.kind,.string r.x.name,.int .i64 r.x.line,.int .i64 r.x.col,.int .i64 r.x.init,.slice ad1 n1 cap1,.string r.x.role,.string r.x.stage,.string r.x.event,.int .i64 r.x.times,.slice ad2 n2 cap2,.bool r.x.final,.int .i64 r.i,.int .i64 r.er,.int .i64 r.line,.int .i64 r.col] 62)).alloc oB4)=W:=⟨_,rfl⟩
 rw[hW0] at PE
 have p0:=PE.p
 have q0:=PE.q
 have HB0:=Lh PE.lo
 clear PE
 obtain⟨c0,c1,c2,c3,c4,c5,c6,c7,c8,c9,c10,c11,c12,c13,c14,c15⟩:=p0.facts
 obtain⟨y0,y1,y2,y3,y4,y5,y6,y7,y8,y9,y10,y11,y12,y13,y14,y15⟩:=p0.free
 rw[pv_is r]
 have HN:=Lh (rdname_any (h.below (HB0.out.mono hB)) (Nat.le_trans hB HB0.out.size) r (nv:=(.slice ad1 n1 cap1)) (iv:=(.slice ad2 n2 cap2)) ⟨_,_,_,rfl⟩ ⟨_,_,_,rfl⟩ hi)
 obtain⟨R,hR⟩:∃ R,nameD T r=R:=⟨_,rfl⟩
 obtain⟨s,hs⟩:∃ s,nameV T r=s:=⟨_,rfl⟩
 have HR:=Lh hR
 have HS:=Lh hs
 have hx:R.x.kind=r.x.kind:=by rw[←hR];unfold nameD;rw[takeD_x]
 by_cases hk:r.x.kind=6
 · have hkb: (R.x.kind == 6)=true:=by rw[hx,beq_iff_eq];exact hk
   have HU:Hid (firstR T r=setStage s R):=by unfold Hid firstR;rw[if_pos hk,hR,hs]
   clear h hB hi hR hs hx hk
   go_enter Tryz.func26,Tryz.ntmps26
   go_wp2_with (first| (refine lP rfl rfl rfl (by assumption) ?_)| (refine sP rfl rfl rfl rfl (by assumption) ?_)|fail)
   rw[pv_is r] at HN
   refine HN.out.mono ?_
   rintro en w1 ⟨rfl,hb1⟩
   rw[HR.out,HS.out]
   have p1:=p0.below hb1
   have q1:=q0.below hb1
   have HB1:=Lh (HB0.out.trans (hb1.mono HB0.out.size))
   clear hb1 p0 q0
   go_wp2_with (first| (refine lP rfl rfl rfl (by assumption) ?_)| (refine sP rfl rfl rfl rfl (by assumption) ?_)|fail)
   unfold Hid
   intro W2 p2 k2
   have q2:=k2.pb q1 (show w.heap.size+1≠w.heap.size by omega)
   have HB2:=Lh (k2.below HB1.out (Nat.le_refl _))
   obtain⟨e0,e1,e2,e3,e4,e5,e6,e7,e8,e9,e10,e11,e12,e13,e14,e15⟩:=p2.facts
   obtain⟨v0,v1,v2,v3,v4,v5,v6,v7,v8,v9,v10,v11,v12,v13,v14,v15⟩:=p2.free
   obtain⟨W3,hW3⟩:∃ W,(W2.setCell ⟨w.heap.size,7,none⟩ (.string s))=W:=⟨_,rfl⟩
   have p3:=p2.putStage s
   have q3:=q2.over (show w.heap.size+1≠w.heap.size by omega) (.string s) (j:=7)
   have hbW3:=HB2.out.setCell (p:=⟨w.heap.size,7,none⟩) (Nat.le_refl _) (.string s)
   rw[hW3] at p3 q3 hbW3
   have HB3:=Lh hbW3
   clear hbW3
   clear p1 q1 p2 q2 k2
   go_wp2_with (first| (refine lP rfl rfl rfl (by assumption) ?_)| (refine sP rfl rfl rfl rfl (by assumption) ?_)|fail)
   unfold Hid
   intro W9 qe ke
   have hbe:=ke.below HB3.out (show w.heap.size≤w.heap.size+1 by omega)
   go_wp2
   exact bodyPost_ret (run_resP (by rfl) (by rfl) qe) rfl ⟨by rw[HU.out],hbe⟩
 · have hkb: (R.x.kind == 6)=false:=by rw[hx];exact beq_eq_false_iff_ne.2 hk
   have HU:Hid (firstR T r=setName s R):=by unfold Hid firstR;rw[if_neg hk,hR,hs]
   clear h hB hi hR hs hx hk
   go_enter Tryz.func26,Tryz.ntmps26
   go_wp2_with (first| (refine lP rfl rfl rfl (by assumption) ?_)| (refine sP rfl rfl rfl rfl (by assumption) ?_)|fail)
   rw[pv_is r] at HN
   refine HN.out.mono ?_
   rintro en w1 ⟨rfl,hb1⟩
   rw[HR.out,HS.out]
   have p1:=p0.below hb1
   have q1:=q0.below hb1
   have HB1:=Lh (HB0.out.trans (hb1.mono HB0.out.size))
   clear hb1 p0 q0
   go_wp2_with (first| (refine lP rfl rfl rfl (by assumption) ?_)| (refine sP rfl rfl rfl rfl (by assumption) ?_)|fail)
   unfold Hid
   intro W2 p2 k2
   have q2:=k2.pb q1 (show w.heap.size+1≠w.heap.size by omega)
   have HB2:=Lh (k2.below HB1.out (Nat.le_refl _))
   obtain⟨e0,e1,e2,e3,e4,e5,e6,e7,e8,e9,e10,e11,e12,e13,e14,e15⟩:=p2.facts
   obtain⟨v0,v1,v2,v3,v4,v5,v6,v7,v8,v9,v10,v11,v12,v13,v14,v15⟩:=p2.free
   obtain⟨W3,hW3⟩:∃ W,(W2.setCell ⟨w.heap.size,1,none⟩ (.string s))=W:=⟨_,rfl⟩
   have p3:=p2.putName s
   have q3:=q2.over (show w.heap.size+1≠w.heap.size by omega) (.string s) (j:=1)
   have hbW3:=HB2.out.setCell (p:=⟨w.heap.size,1,none⟩) (Nat.le_refl _) (.string s)
   rw[hW3] at p3 q3 hbW3
   have HB3:=Lh hbW3
   clear hbW3
   clear p1 q1 p2 q2 k2
   go_wp2_with (first| (refine lP rfl rfl rfl (by assumption) ?_)| (refine sP rfl rfl rfl rfl (by assumption) ?_)|fail)
   unfold Hid
   intro W9 qe ke
   have hbe:=ke.below HB3.out (show w.heap.size≤w.heap.size+1 by omega)
   go_wp2
   exact bodyPost_ret (run_resP (by rfl) (by rfl) qe) rfl ⟨by rw[HU.out],hbe⟩
theorem inD_of_need {T:List Tk} {k:Int} {s:ByteArray} {r:RS} (hk:k≠5) (hi:r.er=0→InD T r): (needD T k s r).er=0→InD T (needD T k s r):=fun h=>by
 have h0:r.er=0:=by
  unfold needD at h
  split at h
  · exact h
  · exact absurd h failD_no
 exact(hi h0).need k s hk
theorem inD_of_name {T:List Tk} {r:RS} (hi:r.er=0→InD T r): (nameD T r).er=0→InD T (nameD T r):=fun h=>by
 have h0:r.er=0:=by
  unfold nameD takeD at h
  split at h
  · exact h
  · split at h
    · exact h
    · exact absurd h failD_no
 exact(hi h0).take 1 (by decide)
theorem rdpair_any {w:World} {B:Nat} {lv:Value} {T:List Tk} (h:TkIn w B lv T) (hB:B≤w.heap.size) (r:RS) {nv iv:Value} (hnv:SlV nv) (hiv:SlV iv) (hi:r.er=0→InD T r) :
 Calls Tryz.prog 25 #[lv,pvV r nv iv] w fun en w'=>(∃ nv',en=.returned (pvV (sodD T r) nv' iv)∧NmRow w' nv' (sodD T r).x.names)∧Below w.heap.size w w':=by
 obtain⟨ad1,n1,cap1,rfl⟩:=hnv
 obtain⟨ad2,n2,cap2,rfl⟩:=hiv
 have PE:=pent w r (.slice ad1 n1 cap1) (.slice ad2 n2 cap2)
 obtain⟨W0,hW0⟩:∃ W,((w.alloc (.cells #[.int .i64 r.x.kind,.string r.x.name,.int .i64 r.x.line,.int .i64 r.x.col,.int .i64 r.x.init,.slice ad1 n1 cap1,.string r.x.role,.string r.x.stage,.string r.x.event,.int .i64 r.x.times,.slice ad2 n2 cap2,.bool r.x.final,.int .i64 r.i,.int .i64 r.er,.int .i64 r.line,.int .i64 r.col] 62)).alloc oB4)=W:=⟨_,rfl⟩
 rw[hW0] at PE
 have p0:=PE.p
 have q0:=PE.q
 have HB0:=Lh PE.lo
 clear PE
 obtain⟨c0,c1,c2,c3,c4,c5,c6,c7,c8,c9,c10,c11,c12,c13,c14,c15⟩:=p0.facts
 obtain⟨y0,y1,y2,y3,y4,y5,y6,y7,y8,y9,y10,y11,y12,y13,y14,y15⟩:=p0.free
 rw[pv_is r]
 have HTK:Hid (∀ W,Below w.heap.size w W→TkIn W B lv T):=fun W hW=>h.below (hW.mono hB)
 have HBB:=Lh hB
 have HN:=Lh (rdname_any (h.below (HB0.out.mono hB)) (Nat.le_trans hB HB0.out.size) r (nv:=(.slice ad1 n1 cap1)) (iv:=(.slice ad2 n2 cap2)) ⟨_,_,_,rfl⟩ ⟨_,_,_,rfl⟩ hi)
 rw[pv_is r] at HN
 have hi1:=inD_of_name hi
 have hi2:=inD_of_need (k:=4) (s:=sComma) (by decide) hi1
 have HUX:sodD T r=setNames [nameV T r,nameV T (needD T 4 sComma (nameD T r))] (nameD T (needD T 4 sComma (nameD T r))):=rfl
 obtain⟨s,hs⟩:∃ s,nameV T r=s:=⟨_,rfl⟩
 obtain⟨R,hR⟩:∃ R,nameD T r=R:=⟨_,rfl⟩
 rw[hs,hR] at HUX HN
 rw[hR] at hi1 hi2
 obtain⟨R2,hR2⟩:∃ R2,needD T 4 sComma R=R2:=⟨_,rfl⟩
 rw[hR2] at HUX hi2
 obtain⟨s3,hs3⟩:∃ s,nameV T R2=s:=⟨_,rfl⟩
 obtain⟨R3,hR3⟩:∃ R,nameD T R2=R:=⟨_,rfl⟩
 rw[hs3,hR3] at HUX
 have HR2:=Lh hR2
 have HR3:=Lh hR3
 have HS3:=Lh hs3
 have HU:=Lh HUX
 have HI1:=Lh hi1
 have HI2:=Lh hi2
 clear h hB hi hs hR hR2 hs3 hR3 HUX hi1 hi2
 go_enter Tryz.func25,Tryz.ntmps25
 go_wp2_with (first| (refine lP rfl rfl rfl (by assumption) ?_)| (refine sP rfl rfl rfl rfl (by assumption) ?_)|fail)
 refine HN.out.mono ?_
 rintro en w1 ⟨rfl,hb1⟩
 have p1:=p0.below hb1
 have q1:=q0.below hb1
 have HB1:=Lh (HB0.out.trans (hb1.mono HB0.out.size))
 clear hb1 p0 q0
 go_wp2_with (first| (refine lP rfl rfl rfl (by assumption) ?_)| (refine sP rfl rfl rfl rfl (by assumption) ?_)|fail)
 unfold Hid
 intro W2 p2 k2
 have q2:=k2.pb q1 (show w.heap.size+1≠w.heap.size by omega)
 have HB2:=Lh (k2.below HB1.out (Nat.le_refl _))
 obtain⟨e0,e1,e2,e3,e4,e5,e6,e7,e8,e9,e10,e11,e12,e13,e14,e15⟩:=p2.facts
 obtain⟨v0,v1,v2,v3,v4,v5,v6,v7,v8,v9,v10,v11,v12,v13,v14,v15⟩:=p2.free
 clear p1 q1 k2
 go_wp2_with (first| (refine lP rfl rfl rfl (by assumption) ?_)| (refine sP rfl rfl rfl rfl (by assumption) ?_)|fail)
 refine(rdmust_any (HTK.out _ HB2.out) (Nat.le_trans HBB.out HB2.out.size) R ⟨_,_,_,rfl⟩ ⟨_,_,_,rfl⟩ 4 sComma HI1.out).mono ?_
 rintro en w3 ⟨rfl,hb3⟩
 rw[HR2.out]
 have p3:=p2.below hb3
 have q3:=q2.below hb3
 have HB3:=Lh (HB2.out.trans (hb3.mono HB2.out.size))
 clear hb3 p2 q2
 go_wp2_with (first| (refine lP rfl rfl rfl (by assumption) ?_)| (refine sP rfl rfl rfl rfl (by assumption) ?_)|fail)
 unfold Hid
 intro W4 p4 k4
 have q4:=k4.pb q3 (show w.heap.size+1≠w.heap.size by omega)
 have HB4:=Lh (k4.below HB3.out (Nat.le_refl _))
 obtain⟨g0,g1,g2,g3,g4,g5,g6,g7,g8,g9,g10,g11,g12,g13,g14,g15⟩:=p4.facts
 obtain⟨u0,u1,u2,u3,u4,u5,u6,u7,u8,u9,u10,u11,u12,u13,u14,u15⟩:=p4.free
 clear p3 q3 k4
 go_wp2_with (first| (refine lP rfl rfl rfl (by assumption) ?_)| (refine sP rfl rfl rfl rfl (by assumption) ?_)|fail)
 refine(rdname_any (HTK.out _ HB4.out) (Nat.le_trans HBB.out HB4.out.size) R2 ⟨_,_,_,rfl⟩ ⟨_,_,_,rfl⟩ HI2.out).mono ?_
 rintro en w5 ⟨rfl,hb5⟩
 rw[HR3.out,HS3.out]
 have p5:=p4.below hb5
 have q5:=q4.below hb5
 have HB5:=Lh (HB4.out.trans (hb5.mono HB4.out.size))
 clear hb5 p4 q4
 go_wp2_with (first| (refine lP rfl rfl rfl (by assumption) ?_)| (refine sP rfl rfl rfl rfl (by assumption) ?_)|fail)
 unfold Hid
 intro W6 p6 k6
 have q6:=k6.pb q5 (show w.heap.size+1≠w.heap.size by omega)
 have HB6:=Lh (k6.below HB5.out (Nat.le_refl _))
 obtain⟨a0,a1,a2,a3,a4,a5,a6,a7,a8,a9,a10,a11,a12,a13,a14,a15⟩:=p6.facts
 obtain⟨b0,b1,b2,b3,b4,b5,b6,b7,b8,b9,b10,b11,b12,b13,b14,b15⟩:=p6.free
 have hal:=(Below.refl W6.heap.size W6).alloc (Nat.le_refl _) (.cells #[.string s,.string s3] 9)
 have p7:=p6.below hal
 have q7:=q6.below hal
 have HB7:=Lh (HB6.out.trans (hal.mono HB6.out.size))
 obtain⟨W7,hW7⟩:∃ W,(W6.alloc (.cells #[.string s,.string s3] 9))=W:=⟨_,rfl⟩
 have own:W7.ownsRow W6.heap.size 9 1 (.slice (some ⟨W6.heap.size,0,none⟩) 2 2) 2 (strV [s,s3]):=by
  rw[←hW7]
  exact World.ownsRow_lit (e:=9) (size:=1) W6 #[.string s,.string s3] 2 (Nat.le_refl _) (by decide) (by simp)
 rw[hW7] at p7 q7 HB7
 obtain⟨f0,f1,f2,f3,f4,f5,f6,f7,f8,f9,f10,f11,f12,f13,f14,f15⟩:=p7.facts
 obtain⟨l0,l1,l2,l3,l4,l5,l6,l7,l8,l9,l10,l11,l12,l13,l14,l15⟩:=p7.free
 obtain⟨W8,hW8⟩:∃ W,(W7.setCell ⟨w.heap.size,5,none⟩ (.slice (some ⟨W6.heap.size,0,none⟩) 2 2))=W:=⟨_,rfl⟩
 have p8:=p7.putNv [s,s3] (.slice (some ⟨W6.heap.size,0,none⟩) 2 2)
 have q8:=q7.over (show w.heap.size+1≠w.heap.size by omega) (.slice (some ⟨W6.heap.size,0,none⟩) 2 2) (j:=5)
 have hbW8:=HB7.out.setCell (p:=⟨w.heap.size,5,none⟩) (Nat.le_refl _) (.slice (some ⟨W6.heap.size,0,none⟩) 2 2)
 rw[hW8] at p8 q8 hbW8
 have HB8:=Lh hbW8
 clear hbW8
 have own8:=(KeptP.cell W7 w.heap.size 5 (.slice (some ⟨W6.heap.size,0,none⟩) 2 2)).own p7 (by decide) own
 rw[hW8] at own8
 have HOWN8:=Lh own8
 clear p5 q5 k6 hal own own8 p6 q6 p7 q7
 go_wp2_with (first| (refine lP rfl rfl rfl (by assumption) ?_)| (refine sP rfl rfl rfl rfl (by assumption) ?_)|fail)
 unfold Hid
 intro W9 qe ke
 have hbe:=ke.below HB8.out (show w.heap.size≤w.heap.size+1 by omega)
 have hnm:=ke.nm q8 ⟨_,HOWN8.out⟩
 go_wp2
 exact bodyPost_ret (run_resP (by rfl) (by rfl) qe) rfl ⟨⟨_,by rw[HU.out],by rw[HU.out];exact hnm⟩,hbe⟩
def EqR (a b:RS):Prop:=a.er=b.er∧a.line=b.line∧a.col=b.col∧(b.er=0→a=b)
theorem EqR.refl (a:RS):EqR a a:=⟨rfl,rfl,rfl,fun _=>rfl⟩
def RdP (w:World) (F:RS) (e:Ending) (w':World):Prop:=∃ R nv iv,e=.returned (pvV R nv iv)∧EqR R F∧NmRow w' nv R.x.names∧ItRow w' iv R.x.ifs∧Below w.heap.size w w'
theorem NmRow.sl {w:World} {v:Value} {l:List ByteArray} (h:NmRow w v l):SlV v:=by obtain⟨a,c,e⟩:=h.len;exact⟨a,_,c,e⟩
theorem ItRow.sl {w:World} {v:Value} {l:List It} (h:ItRow w v l):SlV v:=by obtain⟨a,c,e⟩:=h.len;exact⟨a,_,c,e⟩
theorem own_ne {w:World} {base sz n b:Nat} {t:TypeId} {v:Value} {xs:List Value} {r:RS} {nv iv:Value} (hr:w.ownsRow base t sz v n xs) (hp:PB w b r nv iv) (ht:62≠t):v.ownBlock≠some b:=by
 rcases hr.2 with⟨rfl,_⟩ | ⟨g,cap,cur,rfl,hb,hg,_⟩
 · intro h;cases h
 · intro h
   obtain rfl:g=b:=by injection h
   unfold PB at hp
   rw[hp] at hg
   simp only[Option.some.injEq,Obj.cells.injEq] at hg
   exact ht hg.2.1
theorem nameD_set (T:List Tk) (l:List ByteArray) (r:RS):nameD T (setNames l r)=setNames l (nameD T r):=by
 unfold nameD takeD failD
 rw[apply_ite (setNames l),apply_ite (setNames l),apply_ite (setNames l)];rfl
theorem more_set (T:List Tk) (l:List ByteArray) (r:RS):moreD T (setNames l r)=setNames (l ++ [nameV T r]) (nameD T r):=by
 unfold moreD
 rw[nameD_set];rfl
theorem setsL_bad (T:List Tk) (k:Nat) {r:RS} (h:r.er≠0):setsL T k r=r:=by
 cases k with
 | zero=>rfl
 | succ k=>rw[setsL,if_neg (by unfold mayB;rw[decide_eq_false h,Bool.false_and];decide)]
theorem roleL_bad (T:List Tk) (k:Nat) {r:RS} (h:r.er≠0):roleL T k r=r:=by
 cases k with
 | zero=>rfl
 | succ k=>rw[roleL,if_neg (by unfold kindB;rw[decide_eq_false h,Bool.and_false];decide)]
theorem name_next {T:List Tk} {r:RS} (h0:r.er=0) (h: (nameD T r).er=0): (tkAt T r.i).kind=1∧nameD T r= { r with i:=r.i+1 }:=by
 unfold nameD takeD at h ⊢
 by_cases hk: (tkAt T r.i).kind=1
 · rw[if_pos (by unfold kindB;rw[decide_eq_true hk,decide_eq_true h0];rfl)];exact⟨hk,rfl⟩
 · rw[if_neg (by unfold kindB;rw[decide_eq_false hk,Bool.false_and];decide),if_neg hk] at h
   exact absurd h failD_no
def posP (w:World) (b:Nat):Nat:=(intOf ((w.cell? ⟨b,12,none⟩).getD undef)).toNat
theorem PB.pos {w:World} {b:Nat} {r:RS} {nv iv:Value} (h:PB w b r nv iv):posP w b=r.i.toNat:=by
 obtain⟨_,_,_,_,_,_,_,_,_,_,_,_,c,_⟩:=h.facts
 unfold posP;rw[c];rfl
def Clr (T:List Tk) (r:RS):Prop:=r.er=0→InD T r∧r.line=0∧r.col=0
theorem mayB_bad {T:List Tk} {k:Int} {s:ByteArray} {r:RS} (h:r.er≠0):mayB T k s r=false:=by unfold mayB;rw[decide_eq_false h,Bool.false_and]
theorem mayB_good {T:List Tk} {k:Int} {s:ByteArray} {r:RS} (h:r.er=0):mayB T k s r=isTk T r.i k s:=by unfold mayB;rw[decide_eq_true h,Bool.true_and]
theorem Clr.name {T:List Tk} {r:RS} (h:Clr T r):Clr T (nameD T r):=fun e=>by
 have h0:r.er=0:=by
  unfold nameD takeD at e
  split at e
  · exact e
  · split at e
    · exact e
    · exact absurd e failD_no
 obtain⟨h1,h2,h3⟩:=h h0
 have hn:=(name_next h0 e).2
 refine⟨h1.take 1 (by decide),?_,?_⟩ <;> rw[hn] <;> assumption
theorem Clr.need {T:List Tk} {r:RS} (h:Clr T r) (k:Int) (s:ByteArray) (hk:k≠5):Clr T (needD T k s r):=fun e=>by
 have h0:r.er=0:=by
  unfold needD at e
  split at e
  · exact e
  · exact absurd e failD_no
 obtain⟨h1,h2,h3⟩:=h h0
 refine⟨h1.need k s hk,?_,?_⟩ <;> (unfold needD at e ⊢;split at e;(rename_i w;rw[if_pos w];assumption);exact absurd e failD_no)
theorem Clr.step {T:List Tk} {r:RS} (h:Clr T r) (h0:r.er=0) {k:Int} {s:ByteArray} (hq:isTk T r.i k s=true) (hk:k≠5):Clr T { r with i:=r.i+1 }:=fun _=>by
 obtain⟨h1,h2,h3⟩:=h h0
 have:=isTk_in hq hk
 exact⟨⟨by show 0≤r.i+1;omega,by show r.i+1≤_;omega⟩,h2,h3⟩
end Go.Proofs.YthlofmnmacpogaaGreatDoor
