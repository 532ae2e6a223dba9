import Derived.Test.YtadjnfpomjopkaaGreatSm41
import Derived.Test.YtadjnfpomjopkaaGreatSm05
import Derived.Test.YtadjnfpomjopkaaGreatSm12
namespace Go.Proofs.YtadjnfpomjopkaaGreat
open Go.RowKit
theorem runG_whole {M:Mdl}:∀ {L:List Mv} {s:Sta},(runG M s L).2=0→(runG M s L).1.length=L.length+1
 | [],s,_=>rfl
 | v :: r,s,h=>by
   rw[runG] at h ⊢
   by_cases e: (doS M s v).2≠0
   · rw[if_pos e] at h;exact absurd h e
   · rw[if_neg e] at h ⊢
     show(runG M (doS M s v).1 r).1.length+1=r.length+1+1
     rw[runG_whole h]
def runsS (M:Mdl) (x:Ins) (L:List Mv):Bool:=decide ((allG M L).2=0) && onS M (lastS M L) x
set_option maxRecDepth 100000 in
set_option maxHeartbeats 4000000 in
theorem rrunsQ {w:World} {q:Mem} {M:Mdl} (hm:MdQ w q M) {lad:Option Addr} {lcp:Nat} {L:List Mv} (hl:RowE moveE 3 w (.slice lad L.length lcp) L) (hLn:∀ v ∈ L,∀ n ∈ v.vals,N64 n) (hg:GoodD M) (hr:GoodR M) (hlen:L.length≤1000) (x:Ins) :
 Calls Tryz.prog 13 #[.agg (mdC q M),.slice lad L.length lcp,.agg (insC x)] w (Ret w (.bool (runsS M x L))):=by
 obtain⟨W1,h1,HB1,HM,HF⟩:=boxM hm
 obtain⟨W2,h2,hb2,x2⟩:=box1 W1 (insC x) 37
 have HBW:Hid (∀ V,Below W2.heap.size W2 V→Below W1.heap.size W1 V):=fun V hV=>hb2.trans (hV.mono hb2.size)
 have HAL:=Lib.hid (rallQ (HM.out.below hb2) (hl.below moveE_keep (HB1.out.trans (hb2.mono HB1.out.size))) hLn hg hr hlen)
 have HON0:Hid (∀ V (r:Stm) (s:Sta),Below W1.heap.size W1 V→StQ V r s→SOK s→Calls Tryz.prog 9 #[.agg (mdC q M),.agg (stC r s),.agg (insC x)] V (Ret V (.bool (onS M s x)))):=fun V r s hV h1 h2=>ronQ (HM.out.below hV) h1 h2 hr x
 have HSK:Hid (∀ t ∈ (allG M L).1,SOK t):=fun t ht=>runG_ok hg L hLn (begin_ok hr) t ht
 have HWH:Hid ((allG M L).2=0→(allG M L).1.length=L.length+1):=runG_whole
 have HRR:Hid (runsS M x L= (decide ((allG M L).2=0) && onS M (((allG M L).1[(allG M L).1.length - 1]?).getD zeroS) x)):=rfl
 obtain⟨R,hR⟩:∃ R,runsS M x L=R:=⟨_,rfl⟩
 rw[hR] at HRR ⊢
 obtain⟨A,hA⟩:∃ A,allG M L=A:=⟨_,rfl⟩
 rw[hA] at HAL HSK HWH HRR
 obtain⟨T,z⟩:=A
 dsimp only at HAL HSK HWH HRR
 have HF2:Hid (MdB W2 w.heap.size q M):=HF.out _ hb2
 have hlx:=hl.max
 unfold MdB at HF2
 unfold insC at h2 x2 HON0 ⊢
 unfold mdC at h1 HAL HON0 ⊢
 unfold stC at HON0
 have HX2:=Lib.hid x2
 have HB2:=Lib.hid hb2
 clear hm hl hLn hg hr hR hA x2 hb2 HM
 obtain⟨c0,c1,c2,c3,c4,c5,c6,c7,c8,c9⟩:=HF2.out
 go_enter Tryz.func13,Tryz.ntmps13
 go_wp2_with fail
 refine HAL.out.mono ?_
 rintro e3 W3 ⟨⟨v3,rfl,hrow⟩,hb3⟩
 clear c0 c1 c2 c3 c4 c5 c6 c7 c8 c9 HAL
 have HLOW:Hid (∀ V,Below W3.heap.size W3 V→Below w.heap.size w V):=fun V hV=>HB1.out.trans ((HBW.out V (hb3.trans (hV.mono hb3.size))).mono HB1.out.size)
 have HXS:Hid (∀ V,Below W3.heap.size W3 V→MdB V w.heap.size q M∧Blk V W1.heap.size #[.int .i64 x.op,.int .i64 x.l.1,.int .i64 x.l.2,.int .i64 x.r.1,.int .i64 x.r.2,.int .i64 x.n,.int .i64 x.user] 37):=fun V hV=>⟨HF.out V (HBW.out V (hb3.trans (hV.mono hb3.size))),HX2.out.keep (hb3.trans (hV.mono hb3.size))⟩
 by_cases hz:z=0
 · subst hz
   have hTL:=HWH.out rfl
   obtain⟨s,hs⟩:∃ s,T[L.length]?=some s:=⟨_,List.getElem?_eq_getElem (by omega)⟩
   have HE:Hid (R=onS M s x):=by unfold Hid;rw[HRR.out,hTL,Nat.add_sub_cancel,hs];simp
   have hSs:=HSK.out s (List.mem_of_getElem? hs)
   obtain⟨b,off,cap,r,hv,hbl,⟨hq,-⟩,a0,a1,a2,a3,a4⟩:=stateAt hrow hs
   subst hv
   rw[hTL]
   have HON:Hid (∀ V,Below W3.heap.size W3 V→Calls Tryz.prog 9 #[.agg #[.slice q.a0 M.attrs.length q.k0,.slice q.a1 M.inits.length q.k1,.slice q.a2 M.users.length q.k2,.slice q.a3 M.roles.length q.k3,.slice q.a4 M.stages.length q.k4,.slice q.a5 M.events.length q.k5,.slice q.a6 M.guards.length q.k6,.slice q.a7 M.miles.length q.k7,.slice q.a8 M.sods.length q.k8,.slice q.a9 M.order.length q.k9],.agg #[.slice r.a0 s.vals.length r.k0,.int .i64 s.opn,.int .i64 s.dne,.slice r.a3 s.did.length r.k3,.slice r.a4 s.cnt.length r.k4],.agg #[.int .i64 x.op,.int .i64 x.l.1,.int .i64 x.l.2,.int .i64 x.r.1,.int .i64 x.r.2,.int .i64 x.n,.int .i64 x.user]] V (Ret V (.bool (onS M s x)))):=fun V hV=>HON0.out V r s (HBW.out V (hb3.trans (hV.mono hb3.size))) (hq.below hV) hSs
   have HSF:Hid (∀ V,Below W3.heap.size W3 V→MdB V w.heap.size q M∧(V.cell? ⟨b,off+L.length * 5,none⟩ = some (.slice r.a0 s.vals.length r.k0)∧V.cell? ⟨b,off+L.length * 5+1,none⟩ = some (.int .i64 s.opn)∧V.cell? ⟨b,off+L.length * 5+2,none⟩ = some (.int .i64 s.dne)∧V.cell? ⟨b,off+L.length * 5+3,none⟩ = some (.slice r.a3 s.did.length r.k3)∧V.cell? ⟨b,off+L.length * 5+4,none⟩ = some (.slice r.a4 s.cnt.length r.k4))∧V.cell? ⟨W1.heap.size,0,none⟩ = some (.int .i64 x.op)∧V.cell? ⟨W1.heap.size,1,none⟩ = some (.int .i64 x.l.1)∧V.cell? ⟨W1.heap.size,2,none⟩ = some (.int .i64 x.l.2)∧V.cell? ⟨W1.heap.size,3,none⟩ = some (.int .i64 x.r.1)∧V.cell? ⟨W1.heap.size,4,none⟩ = some (.int .i64 x.r.2)∧V.cell? ⟨W1.heap.size,5,none⟩ = some (.int .i64 x.n)∧V.cell? ⟨W1.heap.size,6,none⟩ = some (.int .i64 x.user)):=fun V hV=>by
    obtain⟨m1,m2⟩:=HXS.out V hV
    exact⟨m1,⟨(hV.cell (p:=⟨b,off+L.length * 5,none⟩) hbl).trans a0,(hV.cell (p:=⟨b,off+L.length * 5+1,none⟩) hbl).trans a1,(hV.cell (p:=⟨b,off+L.length * 5+2,none⟩) hbl).trans a2,(hV.cell (p:=⟨b,off+L.length * 5+3,none⟩) hbl).trans a3,(hV.cell (p:=⟨b,off+L.length * 5+4,none⟩) hbl).trans a4⟩,m2.cell rfl,m2.cell rfl,m2.cell rfl,m2.cell rfl,m2.cell rfl,m2.cell rfl,m2.cell rfl⟩
   have hq1: (L.length:Int) < (L.length:Int)+1:=by omega
   have hq2: (L.length:Int) < ((L.length+1:Nat):Int):=by omega
   have hq3: (0:Int)≤(L.length:Int):=Int.natCast_nonneg _
   clear hs hSs hq hbl a0 a1 a2 a3 a4 hrow hb3 hTL HON0
   go_upto_region 2 with fail
   have hbz:Below W3.heap.size W3 W3.drew:=(Below.refl _ _).drew
   refine startH (S:=fun V=>MdB V w.heap.size q M∧(V.cell? ⟨b,off+L.length * 5,none⟩ = some (.slice r.a0 s.vals.length r.k0)∧V.cell? ⟨b,off+L.length * 5+1,none⟩ = some (.int .i64 s.opn)∧V.cell? ⟨b,off+L.length * 5+2,none⟩ = some (.int .i64 s.dne)∧V.cell? ⟨b,off+L.length * 5+3,none⟩ = some (.slice r.a3 s.did.length r.k3)∧V.cell? ⟨b,off+L.length * 5+4,none⟩ = some (.slice r.a4 s.cnt.length r.k4))∧V.cell? ⟨W1.heap.size,0,none⟩ = some (.int .i64 x.op)∧V.cell? ⟨W1.heap.size,1,none⟩ = some (.int .i64 x.l.1)∧V.cell? ⟨W1.heap.size,2,none⟩ = some (.int .i64 x.l.2)∧V.cell? ⟨W1.heap.size,3,none⟩ = some (.int .i64 x.r.1)∧V.cell? ⟨W1.heap.size,4,none⟩ = some (.int .i64 x.r.2)∧V.cell? ⟨W1.heap.size,5,none⟩ = some (.int .i64 x.n)∧V.cell? ⟨W1.heap.size,6,none⟩ = some (.int .i64 x.user)) (by kernel_rfl) (HSF.out _ hbz) (fun hHeld=>?_)
   refine takesH [0,1,2,3,4,5,6,7,8,9] (by kernel_rfl) (fun _ _ d _ _ h=>by cases d <;> exact h) (by kernel_rfl) (by kernel_rfl) (by assumption) ?_
   repeat (first
    | (refine TakeSeq.cons (v:=?_) rfl (by rfl) ?_ ?_
       rotate_left
       · ((intro w hSw;unfold MdB at hSw;go_simp) <;> (try with_reducible rfl))
       (try go_simp))
    | (refine TakeSeq.skip rfl (by rfl) ?_;(try go_simp)))
   refine TakeSeq.nil ?_
   refine callH 10 (by kernel_rfl) (by kernel_rfl) rfl (by rfl) ?_
   intro K hK
   go_simp
   go_at_call 9
   with_reducible refine(HON.out _ hbz).mono ?_
   rintro e5 W5 ⟨rfl,hbn⟩
   have hbz:=hbz.trans (hbn.mono hbz.size)
   refine hK.out _ _ (HSF.out _ hbz) (fun hHeld=>?_)
   clear hK K hbn
   (try go_simp)
   refine takesH [11] (by kernel_rfl) (fun _ _ d _ _ h=>by cases d <;> exact h) (by kernel_rfl) (by kernel_rfl) (by assumption) ?_
   repeat (first
    | (refine TakeSeq.cons (v:=?_) rfl (by rfl) ?_ ?_
       rotate_left
       · ((intro w hSw;unfold MdB at hSw;go_simp) <;> (try with_reducible rfl))
       (try go_simp))
    | (refine TakeSeq.skip rfl (by rfl) ?_;(try go_simp)))
   refine TakeSeq.nil ?_
   refine callH 12 (by kernel_rfl) (by kernel_rfl) rfl (by rfl) ?_
   intro K hK
   go_simp
   refine hK.out _ _ hHeld (fun hHeld=>?_)
   clear hK K
   (try go_simp)
   refine doneH (by kernel_rfl) ?_
   have HBZ:=Lib.hid hbz
   clear hbz hHeld
   go_wp2
   go_ret
   exact⟨ret_bool HE.out.symm,HLOW.out _ HBZ.out⟩
 · have HE:Hid (R=false):=by unfold Hid;rw[HRR.out,decide_eq_false hz];rfl
   have bz: (z == 0)=false:=by simp[hz]
   obtain⟨ad3,cap3,e3⟩:=hrow.len
   subst e3
   have HSF:Hid (∀ V,Below W3.heap.size W3 V→MdB V w.heap.size q M∧V.cell? ⟨W1.heap.size,0,none⟩ = some (.int .i64 x.op)∧V.cell? ⟨W1.heap.size,1,none⟩ = some (.int .i64 x.l.1)∧V.cell? ⟨W1.heap.size,2,none⟩ = some (.int .i64 x.l.2)∧V.cell? ⟨W1.heap.size,3,none⟩ = some (.int .i64 x.r.1)∧V.cell? ⟨W1.heap.size,4,none⟩ = some (.int .i64 x.r.2)∧V.cell? ⟨W1.heap.size,5,none⟩ = some (.int .i64 x.n)∧V.cell? ⟨W1.heap.size,6,none⟩ = some (.int .i64 x.user)):=fun V hV=>by
    obtain⟨m1,m2⟩:=HXS.out V hV
    exact⟨m1,m2.cell rfl,m2.cell rfl,m2.cell rfl,m2.cell rfl,m2.cell rfl,m2.cell rfl,m2.cell rfl⟩
   clear hz hrow hb3
   go_upto_region 2 with fail
   have hbz:Below W3.heap.size W3 W3.drew:=(Below.refl _ _).drew
   refine startH (S:=fun V=>MdB V w.heap.size q M∧V.cell? ⟨W1.heap.size,0,none⟩ = some (.int .i64 x.op)∧V.cell? ⟨W1.heap.size,1,none⟩ = some (.int .i64 x.l.1)∧V.cell? ⟨W1.heap.size,2,none⟩ = some (.int .i64 x.l.2)∧V.cell? ⟨W1.heap.size,3,none⟩ = some (.int .i64 x.r.1)∧V.cell? ⟨W1.heap.size,4,none⟩ = some (.int .i64 x.r.2)∧V.cell? ⟨W1.heap.size,5,none⟩ = some (.int .i64 x.n)∧V.cell? ⟨W1.heap.size,6,none⟩ = some (.int .i64 x.user)) (by kernel_rfl) (HSF.out _ hbz) (fun hHeld=>?_)
   refine takesH [0,1,2,3,4,5,6,7,8,9,10,11] (by kernel_rfl) (fun _ _ d _ _ h=>by cases d <;> exact h) (by kernel_rfl) (by kernel_rfl) (by assumption) ?_
   repeat (first
    | (refine TakeSeq.cons (v:=?_) rfl (by rfl) ?_ ?_
       rotate_left
       · ((intro w hSw;unfold MdB at hSw;go_simp) <;> (try with_reducible rfl))
       (try rw[bz])
       (try go_simp))
    | (refine TakeSeq.skip rfl (by rfl) ?_;(try go_simp)))
   refine TakeSeq.nil ?_
   refine callH 12 (by kernel_rfl) (by kernel_rfl) rfl (by rfl) ?_
   intro K hK
   go_simp
   refine hK.out _ _ hHeld (fun hHeld=>?_)
   clear hK K
   (try go_simp)
   refine doneH (by kernel_rfl) ?_
   have HBZ:=Lib.hid hbz
   clear hbz hHeld
   go_wp2
   go_ret
   exact⟨ret_bool HE.out.symm,HLOW.out _ HBZ.out⟩
end Go.Proofs.YtadjnfpomjopkaaGreat
namespace Go.Proofs.YtadjnfpomjopkaaGreat
open Go.RowKit
abbrev Mq:=Mv × Option Addr × Nat
def mqC (x:Mq):List Value:=[.int .i64 x.1.event,.int .i64 x.1.user,.slice x.2.1 x.1.vals.length x.2.2]
def mqF (l:List Mq):List Value:=l.flatMap mqC
theorem mqF_len (l:List Mq): (mqF l).length=l.length * 3:=by
 induction l with
 | nil=>rfl
 | cons x r ih=>simp only[mqF,List.flatMap_cons,List.length_append,List.length_cons] at *;rw[ih];simp[mqC];omega
theorem mqF_app (a b:List Mq):mqF (a ++b)=mqF a ++mqF b:=by simp[mqF]
theorem mqF_cons (x:Mq) (l:List Mq):mqF (x :: l)=mqC x ++mqF l:=by simp[mqF]
theorem mqF_get (l:List Mq) (i j:Nat) (x:Mq) (hx:l[i]?=some x) (hj:j < 3): (mqF l)[i * 3+j]?= (mqC x)[j]?:=by
 induction l generalizing i with
 | nil=>simp at hx
 | cons y r ih=>
   rw[mqF_cons]
   cases i with
   | zero=>
     simp only[List.getElem?_cons_zero,Option.some.injEq] at hx
     subst hx
     rw[Nat.zero_mul,Nat.zero_add,List.getElem?_append_left (by simp[mqC];omega)]
   | succ i=>
     rw[List.getElem?_append_right (by simp[mqC];omega)]
     rw[show(i+1) * 3+j - (mqC y).length=i * 3+j by simp[mqC];omega]
     exact ih i (by simpa using hx)
def MqIn (w:World) (v:Value) (T:List Mq):Prop:=
 ∃ ad cap,v=.slice ad T.length cap∧((ad=none→cap=0)∧T.length≤cap∧cap≤maxLen)∧(T= []∨∃ g off,ad=some ⟨g,off,none⟩∧g < w.heap.size∧∀ (k:Nat) (x:Mq),T[k]?=some x→∀ j,j < 3→w.cell? ⟨g,off+k * 3+j,none⟩ = (mqC x)[j]?)
theorem MqIn.keep {w w':World} {v:Value} {T:List Mq} (h:MqIn w v T) (hb:Below w.heap.size w w'):MqIn w' v T:=by
 obtain⟨ad,cap,hv,hz,h⟩:=h
 refine⟨ad,cap,hv,hz,?_⟩
 rcases h with h| ⟨g,off,ha,hg,hc⟩
 · exact .inl h
 · exact .inr ⟨g,off,ha,Nat.lt_of_lt_of_le hg hb.size,fun k x hx j hj=>(hb.cell (p:=⟨g,off+k * 3+j,none⟩) hg).trans (hc k x hx j hj)⟩
theorem MqIn.len {w:World} {v:Value} {T:List Mq} (h:MqIn w v T):∃ ad cap,v=.slice ad T.length cap:=by
 obtain⟨ad,cap,hv,_,_⟩:=h;exact⟨ad,cap,hv⟩
theorem MqIn.at {w:World} {v:Value} {T:List Mq} (h:MqIn w v T) {k:Nat} {x:Mq} (hx:T[k]?=some x):∃ g off cap,v=.slice (some ⟨g,off,none⟩) T.length cap∧g < w.heap.size∧True:=by
 obtain⟨ad,cap,hv,hz,hr⟩:=h
 rcases hr with rfl| ⟨g,off,ha,hg,_⟩
 · simp at hx
 · exact⟨g,off,cap,by rw[hv,ha],hg,trivial⟩
theorem MqIn.of_row {w:World} {base:Nat} {v:Value} {T:List Mq} (h:w.ownsRow base 58 3 v T.length (mqF T)):MqIn w v T:=by
 rcases h.2 with⟨rfl,h0⟩ | ⟨g,cap,cur,rfl,hb,hg,hn,hc,_⟩
 · exact⟨none,0,by rw[h0],⟨fun _=>rfl,by omega,by unfold maxLen;omega⟩,.inl (List.length_eq_zero_iff.1 h0)⟩
 · refine⟨_,cap,rfl,⟨fun e=>(by cases e),hn,hc⟩,.inr ⟨g,0,rfl,(Array.getElem?_eq_some_iff.1 hg).1,fun k x hx j hj=>?_⟩⟩
   have hk:=(List.getElem?_eq_some_iff.1 hx).1
   rw[Nat.zero_add,World.ownsRow.cellAt h (k * 3+j) (by omega),mqF_get T k j x hx hj]
theorem run_app_noneM {P:Program} {w:World} {base:Nat} (t ty e:TypeId) (i:TypeInfo) (size cap0:Nat) (ht:P.underlying t=some (.slice e)) (hi:P.info? e=some i)
 (v:Value) (n:Nat) (xs:List Value) (hown:w.ownsRow base e size v n xs) :
 (Builtin.append_ #[t,t] ty #[v,.slice none 0 cap0]).run P w=.ok v w:=by
 rcases hown.2 with⟨rfl,rfl⟩ | ⟨g,cap,cur,rfl,_,_,hnc,_⟩
 · simp[Builtin.append_,run_underlying ht,sizeOf,typeInfo,hi,Builtin.lenOf,Builtin.firstCells]
 · simp[Builtin.append_,run_underlying ht,sizeOf,typeInfo,hi,Builtin.lenOf,Builtin.firstCells,hnc,storeCells]
def mqZero:Value:=.agg #[.int .i64 0,.int .i64 0,.slice none 0 0]
theorem info_move: (Tryz.prog.info? 58).map (fun i=>(i.zero,i.size,i.bytes))=some (some mqZero,3,40):=by kernel_rfl
def MqOne (_:Mq):Prop:=True
theorem mqF_one {L:List Mq} (_:∀ x ∈ L,MqOne x):∀ u ∈ mqF L,u.oneCell'=true:=by
 intro u hu
 obtain⟨x,_,hx⟩:=List.mem_flatMap.1 hu
 simp only[mqC,List.mem_cons,List.not_mem_nil,or_false] at hx
 rcases hx with rfl|rfl|rfl <;> rfl
theorem appM {ops:Array Oper} {rest:List Oper} {o:Oper} {a:Act} {Q:Exit→Act→World→Prop} (w:World) (hgd:o.guard=none) (s x:Operand)
 (ho:o.op=.call { callee:=.builtin .append,args:=#[s,x],argTypes:=#[33,33] })
 (base:Nat) (v:Value) (n:Nat) (xs:List Value) (hs:a.eval s=v) (hown:w.ownsRow base 58 3 v n xs)
 (vx:Value) (L:List Mq) (hx:a.eval x=vx) (hr:MqIn w vx L) (h1:∀ y ∈ L,MqOne y)
 (hbytes:n+L.length≤100000) (hbase:base≤w.heap.size)
 (h:∀ v' w',w'.ownsRow base 58 3 v' (n+L.length) (xs ++mqF L)→Below base w w'→wpList Tryz.prog ops Q rest (a.put o.dst v') w') :
 wpList Tryz.prog ops Q (o :: rest) a w:=by
 obtain⟨i,hi,hz0,hz1,hz2⟩:=info_parts info_move
 have ht:Tryz.prog.underlying 33=some (.slice 58):=Tryz.underlying33
 have h63:n+L.length≤maxLen:=by unfold maxLen;omega
 have hlen:=mqF_len L
 have key:∀ ad m c,vx=.slice (some ad) m c→L.length=m→(∀ j u,(mqF L)[j]?=some u→w.cell? (ad.add j)=some u)→wpList Tryz.prog ops Q (o :: rest) a w:=by
  intro ad m c hv hm hnews
  refine wpList_append_own w hgd s x _ ho base _ i mqZero 3 40 ht hi hz0 hz1 hz2 rfl (by decide) v n xs hs hown ad m c (mqF L) (hx.trans hv) (by omega) hnews (mqF_one h1) (by omega) (by omega) hbase ?_
  intro v' w' ho' hg _
  exact h v' w' (by rw[hm];exact ho') (below_of_grown hg (fun k hk=>(hown.lt k hk).1) hbase)
 obtain⟨ad,cap,hv,_,hr⟩:=hr
 rcases hr with hn| ⟨b,off,rfl,_,hc⟩
 · subst hn
   cases ad with
   | some ad=>exact key ad 0 cap hv rfl (by intro j u hu;simp[mqF] at hu)
   | none=>
     refine wpList_plain hgd fun K hK=>?_
     have hrun:=run_app_noneM (P:=Tryz.prog) (w:=w) (base:=base) 33 o.type _ i 3 cap ht hi v n xs hown
     have hx':a.eval x=.slice none 0 cap:=hx.trans hv
     unfold Oper.wp
     simp[execOp,ho,resolve,invoke,builtin,hs,hx',hrun,Result.andThen]
     exact hK _ _ (h v w (by simpa [mqF] using hown) (Below.refl _ _))
 · refine key ⟨b,off,none⟩ _ cap hv rfl (fun j u hu=>?_)
   have hj:=(List.getElem?_eq_some_iff.1 hu).1
   have e: (⟨b,off,none⟩:Addr).add j= ⟨b,off+j,none⟩:=by unfold Addr.add;split <;> simp_all
   have hk:j / 3 < L.length:=by omega
   have hy:=List.getElem?_eq_getElem hk
   have c:=hc (j / 3) _ hy (j % 3) (Nat.mod_lt _ (by decide))
   have f:=mqF_get L (j / 3) (j % 3) _ hy (Nat.mod_lt _ (by decide))
   rw[show j / 3 * 3+j % 3=j by omega] at f
   rw[Nat.add_assoc,show j / 3 * 3+j % 3=j by omega] at c
   rw[e,c,←f,hu]
set_option maxRecDepth 100000 in
set_option maxHeartbeats 1000000 in
theorem cloneM_any {w:World} {v:Value} {L:List Mq} (h:MqIn w v L) (h1:∀ y ∈ L,MqOne y) (hl:L.length≤100000) :
 Calls Tryz.prog 26 #[v] w fun e w'=>∃ v',e=.returned v'∧w'.ownsRow w.heap.size 58 3 v' L.length (mqF L)∧Below w.heap.size w w':=by
 have hb0:Below w.heap.size w (w.alloc (.cells #[] 58)):=(Below.refl _ w).alloc (Nat.le_refl _) _
 have own0: (w.alloc (.cells #[] 58)).ownsRow w.heap.size 58 3 (.slice (some ⟨w.heap.size,0,none⟩) 0 0) 0 []:=World.ownsRow_lit w #[] 0 (Nat.le_refl _) (Nat.zero_le _) rfl
 have r1:=h.keep hb0
 have HB0:=Lib.hid hb0
 obtain⟨ad,cap,hv⟩:=h.len
 subst hv
 clear hb0
 cases ad with
 | none=>
   have hL:L= []:=by
    obtain⟨ad,cap2,he,_,hr⟩:=h
    rcases hr with hr| ⟨g,off,ha,_⟩
    · exact hr
    · simp only[Value.slice.injEq] at he
      obtain⟨e1,_⟩:=he
      subst e1
      cases ha
   have hc0:cap=0:=by
    obtain⟨ad,cap2,he,hz,_⟩:=h
    simp only[Value.slice.injEq] at he
    rw[he.2.2];exact hz.1 he.1.symm
   subst hL
   subst hc0
   have hnil:∀ W:World,Sem.run Tryz.prog (binOp .eql 33 (.slice none 0 0) (.slice none 0 0)) W=.ok (.bool true) W:=fun W=>by rfl
   clear h h1 hl own0 r1
   go_enter Tryz.func26,Tryz.ntmps26
   go_wp2
   go_ret
   exact⟨_,rfl,World.ownsRow_nil _ _ _ _,Below.refl _ _⟩
 | some ad=>
   have hnil:∀ W:World,Sem.run Tryz.prog (binOp .eql 33 (.slice (some ad) L.length cap) (.slice none 0 0)) W=.ok (.bool false) W:=fun W=>by rfl
   clear h
   go_enter Tryz.func26,Tryz.ntmps26
   go_wp2_with (first
    | (at_builtin;refine appM _ rfl _ _ rfl w.heap.size _ 0 [] rfl (by exact own0) _ _ rfl r1 h1 (by omega) (by simp) ?_;clear own0;intro v' w2 hown2 hb2)
    | fail)
   rw[Nat.zero_add,List.nil_append] at hown2
   have HO:=Lib.hid (And.intro hown2 (HB0.out.trans hb2))
   clear hown2 hb2
   go_wp2
   go_ret
   exact⟨_,rfl,HO.out.1,HO.out.2⟩
theorem MqIn.take {w:World} {g off cap n i:Nat} {L:List Mq} (h:MqIn w (.slice (some ⟨g,off,none⟩) n cap) L) (hi:i≤L.length) (c:Nat) (hc1:i≤c) (hc2:c≤maxLen):MqIn w (.slice (some ⟨g,off,none⟩) i c) (L.take i):=by
 obtain⟨ad,cap2,he,_,hr⟩:=h
 simp only[Value.slice.injEq] at he
 obtain⟨rfl,_,_⟩:=he
 refine⟨_,c,by rw[List.length_take,Nat.min_eq_left hi],⟨fun e=>(by cases e),by rw[List.length_take,Nat.min_eq_left hi];exact hc1,hc2⟩,?_⟩
 rcases hr with rfl| ⟨g2,off2,ha,hg,hc⟩
 · exact .inl (by simp)
 · refine .inr ⟨g2,off2,ha,hg,fun k x hx j hj=>?_⟩
   refine hc k x ?_ j hj
   rw[List.getElem?_take] at hx
   split at hx
   · exact hx
   · cases hx
theorem MqIn.drop {w:World} {g off cap n i:Nat} {L:List Mq} (h:MqIn w (.slice (some ⟨g,off,none⟩) n cap) L) (c:Nat) (hc1:L.length - i≤c) (hc2:c≤maxLen):MqIn w (.slice (some ⟨g,off+i * 3,none⟩) (L.length - i) c) (L.drop i):=by
 obtain⟨ad,cap2,he,_,hr⟩:=h
 simp only[Value.slice.injEq] at he
 obtain⟨rfl,_,_⟩:=he
 refine⟨_,c,by rw[List.length_drop],⟨fun e=>(by cases e),by rw[List.length_drop];exact hc1,hc2⟩,?_⟩
 rcases hr with rfl| ⟨g2,off2,ha,hg,hc⟩
 · exact .inl (by simp)
 · simp only[Option.some.injEq,Addr.mk.injEq,and_true] at ha
   obtain⟨rfl,rfl⟩:=ha
   refine .inr ⟨g,off+i * 3,rfl,hg,fun k x hx j hj=>?_⟩
   have:=hc (i+k) x (by rw[List.getElem?_drop] at hx;exact hx) j hj
   rw[show off+i * 3+k * 3+j=off+ (i+k) * 3+j by omega]
   exact this
theorem MqIn.zero {w:World} {a:Addr} {n:Nat} {L:List Mq} (hL:L= []) (hn:n=0):MqIn w (.slice (some a) n 0) L:=by
 subst hL
 subst hn
 exact⟨some a,0,rfl,⟨fun _=>rfl,Nat.le_refl _,Nat.zero_le _⟩,.inl rfl⟩
set_option maxRecDepth 100000 in
set_option maxHeartbeats 2000000 in
theorem withoutM_any {w:World} {v:Value} {L:List Mq} (h:MqIn w v L) (h1:∀ y ∈ L,MqOne y) {i:Nat} (hi:i < L.length) (hl:L.length≤10000) :
 Calls Tryz.prog 27 #[v,.int .i64 i] w fun e w'=>∃ v',e=.returned v'∧w'.ownsRow w.heap.size 58 3 v' (L.take i ++L.drop (i+1)).length (mqF (L.take i ++L.drop (i+1)))∧Below w.heap.size w w':=by
 obtain⟨x,hx⟩:∃ x,L[i]?=some x:=⟨_,List.getElem?_eq_getElem hi⟩
 obtain⟨g,off,cap,hv,hgl,-⟩:=h.at hx
 subst hv
 have hiz: (i:Int) < (L.length:Int):=by omega
 have hcap:L.length≤cap∧cap≤maxLen:=by
  obtain⟨_,_,he,hz,_⟩:=h
  simp only[Value.slice.injEq] at he
  rw[he.2.2];exact hz.2
 obtain⟨hcl,hcm⟩:=hcap
 obtain⟨ii,hii,hz0,hz1,hz2⟩:=info_parts info_move
 obtain⟨W1,hmk,own1,hg1⟩:=run_make_own (P:=Tryz.prog) w w.heap.size 33 58 ii mqZero 3 Tryz.underlying33 hii hz0 hz1 .i64 .i64 L.length (by rw[hz2];omega) (by unfold maxLen;omega) (Nat.le_refl _)
 have hb1:Below w.heap.size w W1:=below_of_grown hg1 (fun k hk=>by cases hk) (Nat.le_refl _)
 have HB1:=Lib.hid hb1
 have HI:=Lib.hid h
 have HOWN:=Lib.hid own1
 have hw1:wrap64 ((i:Int)+1)= (i:Int)+1:=by unfold wrap64;omega
 have hw2: ((i:Int)+1).toNat=i+1:=by omega
 have hiz1: (i:Int)+1≤(L.length:Int):=by omega
 have hlt1: (L.take i).length=i:=by rw[List.length_take,Nat.min_eq_left (by omega)]
 have hlt2: (L.drop (i+1)).length=L.length - (i+1):=List.length_drop
 clear h hx x hg1 hb1 own1 hii hz0 hz1 hz2
 go_enter Tryz.func27,Tryz.ntmps27
 have hcm':cap≤9223372036854775807:=by unfold maxLen at hcm;omega
 have hic:i≤cap:=by omega
 go_upto_region 3 with(first
  | (at_builtin;refine appM W1 rfl _ _ rfl w.heap.size _ 0 [] rfl (by exact HOWN.out) _ (L.take i) rfl (((HI.out.keep HB1.out).take (by omega) _ (by omega) (by omega))) (fun y hy=>h1 y (List.mem_of_mem_take hy)) (by rw[hlt1];omega) HB1.out.size ?_
     intro v2 w2 hown2 hb2
     have HB2:=Lib.hid (HB1.out.trans hb2)
     rw[Nat.zero_add,List.nil_append,hlt1] at hown2
     obtain⟨ad2,cap2,hv2⟩:=owns_len hown2
     subst hv2
     have HO2:=Lib.hid hown2
     clear hown2 hb2)
  | fail)
 have HLE:Hid (i+ (L.drop (i+1)).length= (L.take i ++L.drop (i+1)).length):=by unfold Hid;rw[List.length_append,hlt1]
 by_cases hci:cap=i+1
 · subst hci
   go_wp2_with (first
    | (at_builtin;refine appM _ rfl _ _ rfl w.heap.size _ _ _ rfl (by exact HO2.out) _ (L.drop (i+1)) rfl (MqIn.zero (List.drop_eq_nil_of_le (by omega)) (by omega)) (fun y hy=>h1 y (List.mem_of_mem_drop hy)) (by rw[hlt2];omega) HB2.out.size ?_
       intro v3 w3 hown3 hb3
       have HB3:=Lib.hid (HB2.out.trans hb3)
       rw[←mqF_app,HLE.out] at hown3
       have HO3:=Lib.hid hown3
       clear hown3 hb3)
    | fail)
   go_ret
   exact⟨_,rfl,HO3.out,HB3.out⟩
 · have hci':¬cap - (i+1)=0:=by omega
   go_wp2_with (first
    | (at_builtin;refine appM _ rfl _ _ rfl w.heap.size _ _ _ rfl (by exact HO2.out) _ (L.drop (i+1)) rfl ((HI.out.keep HB2.out).drop _ (by omega) (by omega)) (fun y hy=>h1 y (List.mem_of_mem_drop hy)) (by rw[hlt2];omega) HB2.out.size ?_
       intro v3 w3 hown3 hb3
       have HB3:=Lib.hid (HB2.out.trans hb3)
       rw[←mqF_app,HLE.out] at hown3
       have HO3:=Lib.hid hown3
       clear hown3 hb3)
    | fail)
   go_ret
   exact⟨_,rfl,HO3.out,HB3.out⟩
end Go.Proofs.YtadjnfpomjopkaaGreat
namespace Go.Proofs.YtadjnfpomjopkaaGreat
open Go.RowKit
def msrK (m:Int):Nat:=if m= -1 then 10002 else m.toNat
def msrM (v:Value):Nat:=msrK (intOf v)
theorem msrM_val (m:Int):msrM (.int .i64 m)=if m= -1 then 10002 else m.toNat:=rfl
set_option maxRecDepth 100000 in
set_option maxHeartbeats 4000000 in
theorem shrunkM_any {w:World} {v:Value} {L:List Mq} (h:MqIn w v L) (hl:L.length≤10000) {p q:Nat} (P:List Mq→Bool)
 (hh:∀ (W:World) (u:Value) (C:List Mq) (base:Nat),Below w.heap.size w W→W.ownsRow base 58 3 u C.length (mqF C)→C.length≤L.length→(∀ y ∈ C,y ∈ L)→Calls Tryz.prog 17 #[u,.pointer (some ⟨p,0,none⟩),.pointer (some ⟨q,0,none⟩)] W fun e w'=>e=.returned (.bool (P C))∧Below W.heap.size W w') :
 Calls Tryz.prog 16 #[v,.func (.func 17) #[] #[.pointer (some ⟨p,0,none⟩),.pointer (some ⟨q,0,none⟩)]] w fun e w'=>∃ v',e=.returned v'∧MqIn w' v' (shrG P L)∧Below w.heap.size w w':=by
 have h1:∀ y ∈ L,MqOne y:=fun _ _=>trivial
 have HH:=Lib.hid hh
 have HC:Hid (∀ (W:World) (u:Value) (C:List Mq),MqIn W u C→(∀ y ∈ C,y ∈ L)→C.length≤10000→Calls Tryz.prog 26 #[u] W fun e w'=>∃ v',e=.returned v'∧w'.ownsRow W.heap.size 58 3 v' C.length (mqF C)∧Below W.heap.size W w'):=fun W u C hu hC hlen=>cloneM_any hu (fun y hy=>h1 y (hC y hy)) (by omega)
 have HWO:Hid (∀ (W:World) (u:Value) (C:List Mq) (i:Nat),MqIn W u C→(∀ y ∈ C,y ∈ L)→i < C.length→C.length≤10000→Calls Tryz.prog 27 #[u,.int .i64 i] W fun e w'=>∃ v',e=.returned v'∧w'.ownsRow W.heap.size 58 3 v' (lessG i C).length (mqF (lessG i C))∧Below W.heap.size W w'):=fun W u C i hu hC hi hlen=>withoutM_any hu (fun y hy=>h1 y (hC y hy)) hi hlen
 obtain⟨R,hRS⟩:∃ R,shrG P L=R:=⟨_,rfl⟩
 have HRS:=Lib.hid hRS
 rw[hRS]
 obtain⟨ad,cap,hv⟩:=h.len
 subst hv
 have HI:=Lib.hid h
 clear h h1 hh hRS
 go_enter Tryz.func16,Tryz.ntmps16
 go_wp2_with fail
 refine(HC.out _ _ _ HI.out (fun y hy=>hy) hl).mono ?_
 rintro e w1 ⟨v1,rfl,hr1,hb1⟩
 obtain⟨ad1,cap1,hv1⟩:=owns_len hr1
 subst hv1
 have HB1:=Lib.hid hb1
 have HI1:=Lib.hid (MqIn.of_row hr1)
 have HII1:=Lib.hid (HI.out.keep hb1)
 clear hr1 hb1
 go_wp2_with fail
 refine(HC.out _ _ _ HII1.out (fun y hy=>hy) hl).mono ?_
 rintro e w2 ⟨v2,rfl,hr2,hb2⟩
 have HB2:=Lib.hid (HB1.out.trans (hb2.mono HB1.out.size))
 have HI2:=Lib.hid (HI1.out.keep hb2)
 have HR2:=Lib.hid hr2
 have HQ:=Lib.hid hb2
 clear hr2 hb2
 go_wp2_with fail
 refine(HH.out _ _ _ _ HB2.out HR2.out (Nat.le_refl _) (fun _ hy=>hy)).mono ?_
 rintro e w3 ⟨rfl,hb3⟩
 have HB3:=Lib.hid (HB2.out.trans (hb3.mono HB2.out.size))
 have HI3:=Lib.hid (HI1.out.keep (HQ.out.trans (hb3.mono HQ.out.size)))
 obtain⟨b,hb⟩:∃ b,P L=b:=⟨_,rfl⟩
 rw[hb]
 have HPL:=Lib.hid hb
 clear hb3 hb HB2 HI2 HR2 HQ HII1 HI1 HB1
 cases b
 · have HS:Hid (R=L):=by unfold Hid;rw[←HRS.out];unfold shrG;rw[HPL.out];rfl
   go_wp2
   go_ret
   exact⟨_,rfl,by rw[HS.out];exact HI3.out,HB3.out⟩
 · have HR0:Hid (runN P (L.length+1) L=R):=by unfold Hid;rw[←HRS.out];unfold shrG;rw[HPL.out];rfl
   go_wp2
   go_loopw [5,6] (fun vo n wr=>∃ (M:List Mq) (m:Int),n=.int .i64 m∧ -1≤m∧m≤10000∧M.length≤L.length∧Hid (MqIn wr vo M∧(∀ y ∈ M,y ∈ L)∧Below w.heap.size w wr∧(((∃ k,M.length < k∧runN P k M=R)∧m≠(M.length:Int)∧(m= -1∨(M.length:Int) < m))∨(m= (M.length:Int)∧R=M)))) (fun _ n _=>msrM n)
   case atStart=>exact⟨L,-1,rfl,by omega,by omega,Nat.le_refl _,HI3.out,fun y hy=>hy,HB3.out,.inl ⟨⟨L.length+1,by omega,HR0.out⟩,by omega,.inl rfl⟩⟩
   case round=>
    obtain⟨M,m,rfl,hm0,hm1,hml,HALL⟩:=hrel
    obtain⟨hM,hmem,hB,hcase⟩:=HALL.out
    obtain⟨adM,capM,hvM⟩:=hM.len
    subst hvM
    by_cases hne:m= (M.length:Int)
    · have HF:Hid (R=M):=by
       rcases hcase with⟨_,h,_⟩ | ⟨_,h⟩
       · exact absurd hne h
       · exact h
      have hneb: (m != (M.length:Int))=false:=by simpa using hne
      have HM:=Lib.hid (And.intro hM hB)
      clear hM hmem hB hcase HALL hne
      go_wp2
      go_ret
      exact⟨_,rfl,by rw[HF.out];exact HM.out.1,HM.out.2⟩
    · obtain⟨⟨kk,hkk,hrun⟩,_,hmm⟩: (∃ k,M.length < k∧runN P k M=R)∧m≠(M.length:Int)∧(m= -1∨(M.length:Int) < m):=by
       rcases hcase with h| ⟨h,_⟩
       · exact h
       · exact absurd h hne
      have hneb: (m != (M.length:Int))=true:=by simpa using hne
      obtain⟨M2,hM2⟩:∃ M2,passG P M.length M=M2:=⟨_,rfl⟩
      have HM:=Lib.hid (And.intro hM (And.intro hmem hB))
      have HP2:=Lib.hid hM2
      have HRUN:=Lib.hid (And.intro hkk hrun)
      have HMM:=Lib.hid hmm
      have hnm:-1≤(M.length:Int) - 1:=by omega
      obtain⟨wo,hwo⟩:∃ w',wr=w':=⟨_,rfl⟩
      rw[hwo] at HM ⊢
      clear hM hmem hB hcase HALL hne hM2 hkk hrun hmm hwo
      go_wp2
      go_loopw [5,7] (fun vo i wr=>∃ (C:List Mq) (j:Int),i=.int .i64 j∧ -1≤j∧j < 10000∧j < (C.length:Int)∧C.length≤L.length∧Hid (MqIn wr vo C∧(∀ y ∈ C,y ∈ L)∧Below w.heap.size w wr∧passG P (j+1).toNat C=M2∧C.length≤M.length)) (fun _ i _=>(intOf i+1).toNat)
      case atStart=>exact⟨M,_,rfl,hnm,by omega,by omega,hml,HM.out.1,HM.out.2.1,HM.out.2.2,by rw[show((M.length:Int) - 1+1).toNat=M.length by omega];exact HP2.out,Nat.le_refl _⟩
      case round=>
       obtain⟨C,j,rfl,hj0,hj1,hjc,hcl,HALL⟩:=hrel
       obtain⟨hC,hmem,hB,hpass,hCM⟩:=HALL.out
       obtain⟨adC,capC,hvC⟩:=hC.len
       subst hvC
       by_cases hneg:j < 0
       · have hj:j= -1:=by omega
         subst hj
         have HE:Hid (C=M2):=hpass
         have HCC:=Lib.hid (And.intro hC (And.intro hmem (And.intro hB hCM)))
         clear hC hmem hB hpass hCM HALL hneg hj0 hj1 hjc
         go_wp2
         go_roundw
         case rel=>
          refine⟨C,(M.length:Int),rfl,by omega,by omega,hcl,HCC.out.1,HCC.out.2.1,HCC.out.2.2.1,?_⟩
          by_cases he:C.length=M.length
          · refine .inr ⟨by omega,?_⟩
            have hp2: (passG P M.length M).length=M.length:=by rw[HP2.out,←HE.out];exact he
            rw[runN_stop HRUN.out.1 HRUN.out.2 hp2,HE.out,←HP2.out,passG_same P M.length M (Nat.le_refl _) hp2]
          · refine .inl ⟨?_,by omega,.inr (by have:=HCC.out.2.2.2;omega)⟩
            have hp2: (passG P M.length M).length≠M.length:=by rw[HP2.out,←HE.out];exact he
            have hgo:=runN_go HRUN.out.1 HRUN.out.2 hp2
            rw[HP2.out,←HE.out] at hgo
            exact hgo
         case measure=>
          have:=HMM.out
          show msrM (.int .i64 (M.length:Int)) < msrM (.int .i64 m)
          rw[msrM_val,msrM_val,if_neg (show ¬((M.length:Int)= -1) by omega)]
          by_cases hm1:m= -1
          · rw[if_pos hm1];omega
          · rw[if_neg hm1];omega
       · obtain⟨jn,rfl⟩:∃ jn:Nat,j= (jn:Int):=⟨j.toNat,by omega⟩
         have hjn:jn < C.length:=by omega
         have hll:=lessG_len hjn
         have HNX:Hid ((P (lessG jn C)=true→passG P jn (lessG jn C)=M2)∧(P (lessG jn C)=false→passG P jn C=M2)):=by
          rw[show((jn:Int)+1).toNat=jn+1 by omega] at hpass
          rw[passG] at hpass
          refine⟨fun h=>by rw[if_pos h] at hpass;exact hpass,fun h=>by rw[if_neg (by rw[h];decide)] at hpass;exact hpass⟩
         have HLM:Hid (∀ y ∈ lessG jn C,y ∈ L):=fun y hy=>hmem y (lessG_mem hy)
         have HW:=Lib.hid (HWO.out _ _ C jn hC hmem hjn (Nat.le_trans hcl hl))
         have HCC:=Lib.hid (And.intro hC (And.intro hmem (And.intro hB hCM)))
         have hjz: (0:Int)≤(jn:Int):=by omega
         obtain⟨D,hD⟩:∃ D,lessG jn C=D:=⟨_,rfl⟩
         rw[hD] at hll HNX HLM HW
         clear hC hmem hB hpass hCM HALL hneg hj0 hD
         go_wp2_with fail
         refine HW.out.mono ?_
         rintro e w4 ⟨v4,rfl,hr4,hb4⟩
         obtain⟨ad4,cap4,hv4⟩:=owns_len hr4
         subst hv4
         have HI4:=Lib.hid (MqIn.of_row hr4)
         have HB4:=Lib.hid (HCC.out.2.2.1.trans (hb4.mono HCC.out.2.2.1.size))
         have HC4:=Lib.hid (HCC.out.1.keep hb4)
         clear hr4 hb4
         go_wp2_with fail
         refine(HC.out _ _ _ HI4.out HLM.out (by omega)).mono ?_
         rintro e w5 ⟨v5,rfl,hr5,hb5⟩
         have HB5:=Lib.hid (HB4.out.trans (hb5.mono HB4.out.size))
         have HR5:=Lib.hid hr5
         have HQ5:=Lib.hid hb5
         clear hr5 hb5
         go_wp2_with fail
         refine(HH.out _ _ _ _ HB5.out HR5.out (by omega) HLM.out).mono ?_
         rintro e w6 ⟨rfl,hb6⟩
         have HB6:=Lib.hid (HB5.out.trans (hb6.mono HB5.out.size))
         have HI6:=Lib.hid (HI4.out.keep (HQ5.out.trans (hb6.mono HQ5.out.size)))
         have HC6:=Lib.hid (HC4.out.keep (HQ5.out.trans (hb6.mono HQ5.out.size)))
         obtain⟨b,hb⟩:∃ b,P D=b:=⟨_,rfl⟩
         have HPD:=Lib.hid hb
         rw[hb]
         clear hb6 hb HB5 HR5 HQ5 HB4 HI4 HC4
         cases b
         · have HN:=Lib.hid (HNX.out.2 HPD.out)
           go_wp2
           go_roundw
           case rel=>exact⟨C,(jn:Int) - 1,by go_num,by omega,by omega,by omega,hcl,HC6.out,HCC.out.2.1,HB6.out,by rw[show((jn:Int) - 1+1).toNat=jn by omega];exact HN.out,HCC.out.2.2.2⟩
           case measure=>simp[intOf]
         · have HN:=Lib.hid (HNX.out.1 HPD.out)
           go_wp2
           go_roundw
           case rel=>exact⟨D,(jn:Int) - 1,by go_num,by omega,by omega,by omega,by omega,HI6.out,HLM.out,HB6.out,by rw[show((jn:Int) - 1+1).toNat=jn by omega];exact HN.out,by have:=HCC.out.2.2.2;omega⟩
           case measure=>simp[intOf]
end Go.Proofs.YtadjnfpomjopkaaGreat
