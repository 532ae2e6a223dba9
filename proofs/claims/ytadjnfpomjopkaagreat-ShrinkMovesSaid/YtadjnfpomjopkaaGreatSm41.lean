import Derived.Test.YtadjnfpomjopkaaGreatSm40
namespace Go.Proofs.YtadjnfpomjopkaaGreat
open Go.RowKit
def NoR (row:Option Nat) (ad:Option Addr) (l:List Int):Prop:=l= []∨∃ a:Addr,ad=some a∧some a.block≠row
def StN (row:Option Nat) (r:Stm) (s:Sta):Prop:=NoR row r.a0 s.vals∧NoR row r.a3 s.did∧NoR row r.a4 s.cnt
theorem RowE.grown {w w':World} {row:Option Nat} {ad:Option Addr} {n k:Nat} {l:List Int} (h:RowE intE 1 w (.slice ad n k) l) (hn:NoR row ad l) (hg:w.grownBy w' row):RowE intE 1 w' (.slice ad n k) l:=by
 obtain⟨ad',cap,hv,hz,h⟩:=h
 refine⟨ad',cap,hv,hz,?_⟩
 simp only[Value.slice.injEq] at hv
 rcases h with h| ⟨b,off,ha,hb,hc⟩
 · exact .inl h
 rcases hn with hn| ⟨a,ha',hne⟩
 · exact .inl hn
 refine .inr ⟨b,off,ha,Nat.lt_of_lt_of_le hb hg.size,fun i x hi=>?_⟩
 obtain⟨cs,h1,h2,h3⟩:=hc i x hi
 have hab:a= ⟨b,off,none⟩:=by rw[hv.1,ha] at ha';exact(Option.some.inj ha').symm
 exact⟨cs,h1,h2,fun j u hj=>hg.cell (h3 j u hj) (by rw[hab] at hne;exact hne)⟩
theorem StQ.grown {w w':World} {row:Option Nat} {r:Stm} {s:Sta} (h:StQ w r s) (hn:StN row r s) (hg:w.grownBy w' row):StQ w' r s:=⟨h.vals.grown hn.1 hg,h.did.grown hn.2.1 hg,h.cnt.grown hn.2.2 hg⟩
theorem NoR.new {w:World} {ad:Option Addr} {n k g:Nat} {l:List Int} (h:RowE intE 1 w (.slice ad n k) l) (hg:w.heap.size≤g):NoR (some g) ad l:=by
 obtain⟨ad',cap,hv,hz,h⟩:=h
 simp only[Value.slice.injEq] at hv
 rcases h with h| ⟨b,off,ha,hb,hc⟩
 · exact .inl h
 · exact .inr ⟨_,by rw[hv.1,ha],by simp only[ne_eq,Option.some.injEq];omega⟩
theorem StN.new {w:World} {r:Stm} {s:Sta} {g:Nat} (h:StQ w r s) (hg:w.heap.size≤g):StN (some g) r s:=⟨NoR.new h.vals hg,NoR.new h.did hg,NoR.new h.cnt hg⟩
theorem NoR.made {B g:Nat} {ad:Option Addr} {l:List Int} (h:l= []∨∃ a:Addr,ad=some a∧B≤a.block) (hg:g < B):NoR (some g) ad l:=by
 rcases h with h| ⟨a,ha,hb⟩
 · exact .inl h
 · exact .inr ⟨a,ha,by simp only[ne_eq,Option.some.injEq];omega⟩
theorem StN.made {B g:Nat} {r:Stm} {s:Sta} (h:StA B r s) (hg:g < B):StN (some g) r s:=⟨NoR.made h.1 hg,NoR.made h.2.1 hg,NoR.made h.2.2 hg⟩
def RaI (w W1:World) (vo:Value) (l:List (Stm × Sta × Int)) (wr:World):Prop:=
 Below W1.heap.size W1 wr∧wr.ownsRow W1.heap.size 44 5 vo l.length (stFlat l)∧∀ x ∈ l,StQ wr x.1 x.2.1∧StA w.heap.size x.1 x.2.1∧StN vo.ownBlock x.1 x.2.1
theorem RaI.grow {w W1 wr wr':World} {vo:Value} {l:List (Stm × Sta × Int)} (h:RaI w W1 vo l wr) (hb:Below wr.heap.size wr wr'):RaI w W1 vo l wr':=
 ⟨h.1.trans (hb.mono h.1.size),owns_below h.2.1 hb,fun x hx=>⟨(h.2.2 x hx).1.below hb,(h.2.2 x hx).2⟩⟩
theorem RaI.snoc {w W1 V V':World} {vo v':Value} {l:List (Stm × Sta × Int)} {x:Stm × Sta × Int} (h:RaI w W1 vo l V) (hx:StQ V x.1 x.2.1∧StA w.heap.size x.1 x.2.1∧StN vo.ownBlock x.1 x.2.1)
 (hown:V'.ownsRow W1.heap.size 44 5 v' (l.length+1) (stFlat l ++ (stC x.1 x.2.1).toList)) (hg:V.grownBy V' vo.ownBlock) (hbel:Below W1.heap.size V V') (hat:v'.ownBlock=vo.ownBlock∨v'.ownBlock=some (V.heap.size+1)):RaI w W1 v' (l ++ [x]) V':=by
 refine⟨h.1.trans hbel,?_,fun y hy=>?_⟩
 · rw[List.length_append,List.length_singleton,stFlat_snoc];exact hown
 · have hy':StQ V y.1 y.2.1∧StA w.heap.size y.1 y.2.1∧StN vo.ownBlock y.1 y.2.1:=by
    rcases List.mem_append.1 hy with q|q
    · exact h.2.2 y q
    · rw[List.mem_singleton.1 q];exact hx
   refine⟨hy'.1.grown hy'.2.2 hg,hy'.2.1,?_⟩
   rcases hat with e|e
   · rw[e];exact hy'.2.2
   · rw[e];exact StN.new hy'.1 (by omega)
theorem flatAt {w:World} {base:Nat} {t:TypeId} {ad:Option Addr} {n cap:Nat} {l:List (Stm × Sta × Int)} (hl:l.length=n) (h:w.ownsRow base t 5 (.slice ad n cap) n (stFlat l)) {i:Nat} {x:Stm × Sta × Int} (hi:l[i]?=some x) :
 ∃ b off,ad=some ⟨b,off,none⟩∧b < w.heap.size∧(Value.slice ad n cap).ownBlock=some b∧(w.cell? ⟨b,off+i * 5,none⟩ = some (.slice x.1.a0 x.2.1.vals.length x.1.k0)∧w.cell? ⟨b,off+i * 5+1,none⟩ = some (.int .i64 x.2.1.opn)∧w.cell? ⟨b,off+i * 5+2,none⟩ = some (.int .i64 x.2.1.dne)∧w.cell? ⟨b,off+i * 5+3,none⟩ = some (.slice x.1.a3 x.2.1.did.length x.1.k3)∧w.cell? ⟨b,off+i * 5+4,none⟩ = some (.slice x.1.a4 x.2.1.cnt.length x.1.k4)):=by
 subst hl
 have hil:=(List.getElem?_eq_some_iff.1 hi).1
 have hc:=h
 rcases h.2 with⟨hv,h0⟩ | ⟨g,cap',cur,hv,hb,hg,hn,hm,hcs,ht⟩
 · omega
 · simp only[Value.slice.injEq] at hv
   obtain⟨rfl,-,rfl⟩:=hv
   have key:∀ j,j < 5→w.cell? ⟨g,0+i * 5+j,none⟩ = (stC x.1 x.2.1).toList[j]?:=fun j hj=>by
    have e:=hc.cellAt (0+i * 5+j) (by omega)
    rw[e,Nat.zero_add,stFlat_get l hi hj]
   exact⟨g,0,rfl,(Array.getElem?_eq_some_iff.1 hg).1,rfl,key 0 (by omega),key 1 (by omega),key 2 (by omega),key 3 (by omega),key 4 (by omega)⟩
theorem app1_at {P:Program} {ops:Array Oper} {rest:List Oper} {o:Oper} {a:Act} {Q:Exit→Act→World→Prop} (w0:World) (us:Array Value) (hgd:o.guard=none) (s x:Operand) (t:TypeId)
 (ho:o.op=.call { callee:=.builtin .append,args:=#[s,x],argTypes:=#[t,t] })
 (base:Nat) (e:TypeId) (z:Value) (size bytes:Nat) (ht:P.underlying t=some (.slice e)) (hinfo: (P.info? e).map (fun i=>(i.zero,i.size,i.bytes))=some (some z,size,bytes))
 (hzs:z.cells.size=size) (hsz:0 < size) (hby:0 < bytes)
 (v:Value) (n:Nat) (xs:List Value) (hs:a.eval s=v) (hown:w0.ownsRow base e size v n xs)
 {z0:Nat} (hx:a.eval x=.slice (some ⟨z0,0,none⟩) 1 1) (hz0:z0=w0.heap.size) (hl:us.size=size) (h1:∀ u ∈ us.toList,u.oneCell'=true)
 (hbytes: (n+1) * bytes≤140737488355328) (hbase:base≤w0.heap.size)
 (h:∀ v' w',w'.ownsRow base e size v' (n+1) (xs ++us.toList)→w0.grownBy w' v.ownBlock→Below base w0 w'→(v'.ownBlock=v.ownBlock∨v'.ownBlock=some (w0.heap.size+1))→wpList P ops Q rest (a.put o.dst v') w') :
 wpList P ops Q (o :: rest) a (w0.alloc (.cells us e)):=by
 subst hz0
 obtain⟨i,hi,hz0,hz1,hz2⟩:=info_parts hinfo
 have h63:n+1≤maxLen:=by
  have: (n+1) * 1≤(n+1) * bytes:=Nat.mul_le_mul_left _ hby
  unfold maxLen;omega
 refine wpList_append_own_at _ hgd s x t ho base e i z size bytes ht hi hz0 hz1 hz2 hzs hsz v n xs hs (hown.alloc _) ⟨w0.heap.size,0,none⟩ 1 1 us.toList hx (by simp[hl]) ?_ h1 h63 hbytes (by simp;omega) ?_
 · intro j u hj
   have: (⟨w0.heap.size,0,none⟩:Addr).add j= ⟨w0.heap.size,j,none⟩:=by unfold Addr.add;split <;> simp_all
   rw[this,World.cell?_alloc_at _ _ _ _ rfl]
   simpa using hj
 · intro v' w' hown' hg _ hat
   have hg0:w0.grownBy w' v.ownBlock:=by
    refine⟨hg.os,hg.tape,hg.output,Nat.le_trans (by simp) hg.size,fun k hk hne=>?_⟩
    rw[hg.block k (by simp;omega) hne]
    exact Below.heap_alloc w0 _ k hk
   exact h v' w' hown' hg0 (below_of_grown hg0 (fun k hk=>(hown.lt k hk).1) hbase) (by simpa using hat)
theorem runG_ok {M:Mdl} (hg:GoodD M):∀ (L:List Mv) {s:Sta},(∀ v ∈ L,∀ n ∈ v.vals,N64 n)→SOK s→∀ t ∈ (runG M s L).1,SOK t
 | [],s,_,h,t,ht=>by rw[runG] at ht;rw[List.mem_singleton.1 ht];exact h
 | v :: r,s,hv,h,t,ht=>by
   rw[runG] at ht
   split at ht
   · rw[List.mem_singleton.1 ht];exact h
   · rcases List.mem_cons.1 ht with e|e
     · rw[e];exact h
     · exact runG_ok hg r (fun v' h'=>hv v' (List.mem_cons_of_mem _ h')) (h.do (hv v List.mem_cons_self) hg) t e
theorem begin_ok {M:Mdl} (hr:GoodR M):SOK (beginS M):=hr.start.pass (-1)
theorem runG_cons (M:Mdl) (s:Sta) {L:List Mv} {i:Nat} {v:Mv} (h:L[i]?=some v):runG M s (L.drop i)=if(doS M s v).2≠0 then([s],(doS M s v).2) else(s :: (runG M (doS M s v).1 (L.drop (i+1))).1,(runG M (doS M s v).1 (L.drop (i+1))).2):=by
 have e:L.drop i=v :: L.drop (i+1):=by rw[List.drop_eq_getElem?_toList_append,h];rfl
 rw[e,runG]
end Go.Proofs.YtadjnfpomjopkaaGreat
namespace Go.Proofs.YtadjnfpomjopkaaGreat
open Go.RowKit
theorem grownBy_setCell1 (W:World) (b j:Nat) (v:Value):W.grownBy (W.setCell ⟨b,j,none⟩ v) (some b):=
 ⟨rfl,rfl,rfl,by simp,fun k _ hk=>Below.heap_setCell _ _ _ k (fun e=>hk (by rw[e]))⟩
theorem put5_grown (W:World) (b:Nat) (a0 a1 a2 a3 a4:Value):W.grownBy (((((W.setCell ⟨b,0,none⟩ a0).setCell ⟨b,1,none⟩ a1).setCell ⟨b,2,none⟩ a2).setCell ⟨b,3,none⟩ a3).setCell ⟨b,4,none⟩ a4) (some b):=
 ((((grownBy_setCell' W b a0).trans (grownBy_setCell1 _ b 1 a1)).trans (grownBy_setCell1 _ b 2 a2)).trans (grownBy_setCell1 _ b 3 a3)).trans (grownBy_setCell1 _ b 4 a4)
theorem RaI.row {w W1 V:World} {ad:Option Addr} {n cap:Nat} {l:List (Stm × Sta × Int)} (h:RaI w W1 (.slice ad n cap) l V) (hl:l.length=n):RowE (stateE w.heap.size) 5 V (.slice ad n cap) (l.map fun x=>x.2.1):=by
 subst hl
 exact rowS_of h.2.1 (fun x hx=>⟨(h.2.2 x hx).1,(h.2.2 x hx).2.1⟩)
set_option maxRecDepth 100000 in
set_option maxHeartbeats 8000000 in
theorem rallQ {w:World} {q:Mem} {M:Mdl} (hm:MdQ w q M) {lad:Option Addr} {lcp:Nat} {L:List Mv} (hl:RowE moveE 3 w (.slice lad L.length lcp) L) (hLn:∀ v ∈ L,∀ n ∈ v.vals,N64 n) (hg:GoodD M) (hr:GoodR M) (hlen:L.length≤1000) :
 Calls Tryz.prog 23 #[.agg (mdC q M),.slice lad L.length lcp] w fun e w'=>(∃ v,e=.returned (.tuple #[v,.int .i64 (allG M L).2])∧RowE (stateE w.heap.size) 5 w' v (allG M L).1)∧Below w.heap.size w w':=by
 obtain⟨W1,h1,HB1,HM,HF⟩:=boxM hm
 have HBG:=Lib.hid (rbeginQ HM.out hr)
 have HML:Hid (∀ V,Below W1.heap.size W1 V→RowE moveE 3 V (.slice lad L.length lcp) L):=fun V hV=>hl.below moveE_keep (HB1.out.trans (hV.mono HB1.out.size))
 have HDO:Hid (∀ V (r:Stm) (s:Sta) (v:Mv) ai ki,Below W1.heap.size W1 V→StQ V r s→SOK s→Bd s→RowE intE 1 V (.slice ai v.vals.length ki) v.vals→(∀ n ∈ v.vals,N64 n)→Calls Tryz.prog 38 #[.agg (mdC q M),.agg (stC r s),.agg #[.int .i64 v.event,.int .i64 v.user,.slice ai v.vals.length ki]] V (DoP V M r s v)):=fun V r s v ai ki hV h1 h2 h3 h4 h5=>rdoQ (HM.out.below hV) h1 h2 h4 h5 hg hr h3
 have HF1:Hid (MdB W1 w.heap.size q M):=HF.out _ (Below.refl _ _)
 have HLN:=Lib.hid hLn
 have HBO:Hid (SOK (beginS M)∧Bd (beginS M)∧allG M L=runG M (beginS M) L):=⟨begin_ok hr,begin_bd M,rfl⟩
 have HGD:Hid (∀ s v,SOK s→(∀ n ∈ Mv.vals v,N64 n)→SOK (doS M s v).1):=fun s v h1 h2=>h1.do h2 hg
 have hlx:=hl.max
 unfold MdB at HF1
 unfold mdC at h1 HBG HDO ⊢
 unfold stC at HDO
 clear hm hl hLn hg hr
 obtain⟨c0,c1,c2,c3,c4,c5,c6,c7,c8,c9⟩:=HF1.out
 go_enter Tryz.func23,Tryz.ntmps23
 go_wp2_with fail
 refine HBG.out.mono ?_
 rintro e2 W2 ⟨⟨r0,rfl,hS0,hA0⟩,hb2⟩
 clear c0 c1 c2 c3 c4 c5 c6 c7 c8 c9
 obtain⟨s0,hs0⟩:∃ s,beginS M=s:=⟨_,rfl⟩
 rw[hs0] at hS0 hA0 HBO ⊢
 clear hs0 HBG
 obtain⟨W3,h3,hb3,-⟩:=box1 W2 (stC r0 s0) 44
 have hb13:=hb2.trans (hb3.mono hb2.size)
 have HR0:Hid (RaI w W1 (.slice (some ⟨W2.heap.size,0,none⟩) 1 1) ([] ++ [(r0,s0,0)]) W3):=by
  refine⟨hb13,?_,fun x hx=>?_⟩
  · rw[←h3]
    have:=World.ownsRow_lit (e:=44) (size:=5) W2 (stC r0 s0) 1 hb2.size (by unfold maxLen;omega) rfl
    simpa [stFlat] using this
  · simp only[List.nil_append,List.mem_singleton] at hx
    subst hx
    exact⟨hS0.below hb3,hA0.mono HB1.out.size,StN.new hS0 (Nat.le_refl _)⟩
 unfold stC at h3 ⊢
 clear hS0 hA0 hb2 hb3 hb13
 go_wp2
 go_loopw [6,7] (fun vo io wr=>∃ (n:Nat) (p:List (Stm × Sta × Int)) (r:Stm) (s:Sta),io=.int .i64 (n:Int)∧n≤L.length∧Hid (p.length=n∧RaI w W1 vo (p ++ [(r,s,0)]) wr∧SOK s∧Bd s∧allG M L= (p.map (fun x=>x.2.1) ++ (runG M s (L.drop n)).1,(runG M s (L.drop n)).2))) (fun _ io _=>L.length - (intOf io).toNat)
 case atStart=>exact⟨0,[],r0,s0,rfl,Nat.zero_le _,rfl,HR0.out,HBO.out.1,HBO.out.2.1,HBO.out.2.2⟩
 case round=>
  obtain⟨n,p,r,s,rfl,hn,HI⟩:=hrel
  obtain⟨hpl,hRa,hOk,hBd,hAll⟩:=HI.out
  have hl1: (p ++ [(r,s,(0:Int))]).length=n+1:=by simp[hpl]
  obtain⟨adp,capp,evp⟩:=owns_len hRa.2.1
  rw[hl1] at evp
  subst evp
  have hown:=hRa.2.1
  rw[hl1] at hown
  have hlast: (p ++ [(r,s,(0:Int))])[n]?=some (r,s,0):=by rw[←hpl];simp
  have hmem: (r,s,(0:Int)) ∈ p ++ [(r,s,(0:Int))]:=by simp
  rcases Nat.lt_or_ge n L.length with hlt|hge
  · have hkz:=ltI hlt
    have hn0: (0:Int)≤(n:Int):=Int.natCast_nonneg _
    have hkq: (n:Int) < (n:Int)+1:=by omega
    have hkq2: (n:Int) < ((n+1:Nat):Int):=by omega
    obtain⟨v,hv⟩:∃ v,L[n]?=some v:=⟨_,List.getElem?_eq_getElem hlt⟩
    obtain⟨bm,om,cpm,ai,ki,hvm,hlm,hrm,m0,m1,m2⟩:=moveRow (HML.out _ hRa.1) hv
    simp only[Value.slice.injEq] at hvm
    have hd2:=hvm.1
    obtain⟨b,off,rfl,hbl,hob,a0,a1,a2,a3,a4⟩:=flatAt hl1 hown hlast
    dsimp only at a0 a1 a2 a3 a4
    have hSl:=(hRa.2.2 _ hmem)
    rw[hob] at hSl
    have HSL:=Lib.hid hSl
    have hvn:=HLN.out v (List.mem_of_getElem? hv)
    have HCD:Hid (∀ V,Below wr.heap.size wr V→Calls Tryz.prog 38 #[.agg #[.slice q.a0 M.attrs.length q.k0,.slice q.a1 M.inits.length q.k1,.slice q.a2 M.users.length q.k2,.slice q.a3 M.roles.length q.k3,.slice q.a4 M.stages.length q.k4,.slice q.a5 M.events.length q.k5,.slice q.a6 M.guards.length q.k6,.slice q.a7 M.miles.length q.k7,.slice q.a8 M.sods.length q.k8,.slice q.a9 M.order.length q.k9],.agg #[.slice r.a0 s.vals.length r.k0,.int .i64 s.opn,.int .i64 s.dne,.slice r.a3 s.did.length r.k3,.slice r.a4 s.cnt.length r.k4],.agg #[.int .i64 v.event,.int .i64 v.user,.slice ai v.vals.length ki]] V (DoP V M r s v)):=fun V hV=>HDO.out V r s v ai ki (hRa.1.trans (hV.mono hRa.1.size)) (hSl.1.below hV) hOk hBd (hrm.below intE_keep hV) hvn
    have HSF:Hid (∀ V,Below wr.heap.size wr V→MdB V w.heap.size q M∧(V.cell? ⟨b,off+n * 5,none⟩ = some (.slice r.a0 s.vals.length r.k0)∧V.cell? ⟨b,off+n * 5+1,none⟩ = some (.int .i64 s.opn)∧V.cell? ⟨b,off+n * 5+2,none⟩ = some (.int .i64 s.dne)∧V.cell? ⟨b,off+n * 5+3,none⟩ = some (.slice r.a3 s.did.length r.k3)∧V.cell? ⟨b,off+n * 5+4,none⟩ = some (.slice r.a4 s.cnt.length r.k4))∧V.cell? ⟨bm,om+n * 3,none⟩ = some (.int .i64 v.event)∧V.cell? ⟨bm,om+n * 3+1,none⟩ = some (.int .i64 v.user)∧V.cell? ⟨bm,om+n * 3+2,none⟩ = some (.slice ai v.vals.length ki)):=fun V hV=>⟨HF.out V (hRa.1.trans (hV.mono hRa.1.size)),⟨(hV.cell (p:=⟨b,off+n * 5,none⟩) hbl).trans a0,(hV.cell (p:=⟨b,off+n * 5+1,none⟩) hbl).trans a1,(hV.cell (p:=⟨b,off+n * 5+2,none⟩) hbl).trans a2,(hV.cell (p:=⟨b,off+n * 5+3,none⟩) hbl).trans a3,(hV.cell (p:=⟨b,off+n * 5+4,none⟩) hbl).trans a4⟩,(hV.cell (p:=⟨bm,om+n * 3,none⟩) hlm).trans m0,(hV.cell (p:=⟨bm,om+n * 3+1,none⟩) hlm).trans m1,(hV.cell (p:=⟨bm,om+n * 3+2,none⟩) hlm).trans m2⟩
    have HDN:Hid (SOK (doS M s v).1∧Bd (doS M s v).1∧((doS M s v).2≠0→allG M L= ((p ++ [(r,s,(0:Int))]).map (fun x=>x.2.1),(doS M s v).2))∧((doS M s v).2=0→allG M L= ((p ++ [(r,s,(0:Int))]).map (fun x=>x.2.1) ++ (runG M (doS M s v).1 (L.drop (n+1))).1,(runG M (doS M s v).1 (L.drop (n+1))).2))):=by
     rw[runG_cons M s hv] at hAll
     refine⟨HGD.out s v hOk hvn,do_bd v hBd,fun h=>?_,fun h=>?_⟩
     · rw[if_pos h] at hAll;rw[hAll];simp
     · rw[if_neg (by simp[h])] at hAll;rw[hAll];simp
    have hbw:=Nat.le_trans HB1.out.size hRa.1.size
    have HOR:Hid (∀ (V:World) (b8:Nat) (r9:Stm) (s9:Sta) (W9:World),wr.heap.size≤V.heap.size→StQ W9 r9 s9→((r9=r∧s9=s)∨StA V.heap.size r9 s9)→(W9.heap.size≤b8∨(wr.heap.size≤b8∧b8 < V.heap.size))→StA w.heap.size r9 s9∧StN (some b) r9 s9∧StN (some b8) r9 s9):=by
     intro V b8 r9 s9 W9 h1 h2 h3 h4
     rcases h3 with⟨rfl,rfl⟩ | h3
     · refine⟨HSL.out.2.1,HSL.out.2.2,?_⟩
       rcases h4 with h4|h4
       · exact StN.new h2 h4
       · exact StN.new HSL.out.1 h4.1
     · refine⟨h3.mono (Nat.le_trans hbw h1),StN.made h3 (Nat.lt_of_lt_of_le hbl h1),?_⟩
       rcases h4 with h4|h4
       · exact StN.new h2 h4
       · exact StN.made h3 h4.2
    have HRA:=Lib.hid (And.intro hpl hRa)
    have HL1:=Lib.hid hl1
    have HOB:=Lib.hid hob
    clear hv hvm hlm hrm m0 m1 m2 hbl hob a0 a1 a2 a3 a4 hSl hvn hbw hpl hRa hOk hBd hAll hown hlast hmem HI hl1
    go_upto_region 5 with fail
    have hbz:Below wr.heap.size wr wr.drew:=(Below.refl _ _).drew
    refine startH (S:=fun V=>MdB V w.heap.size q M∧(V.cell? ⟨b,off+n * 5,none⟩ = some (.slice r.a0 s.vals.length r.k0)∧V.cell? ⟨b,off+n * 5+1,none⟩ = some (.int .i64 s.opn)∧V.cell? ⟨b,off+n * 5+2,none⟩ = some (.int .i64 s.dne)∧V.cell? ⟨b,off+n * 5+3,none⟩ = some (.slice r.a3 s.did.length r.k3)∧V.cell? ⟨b,off+n * 5+4,none⟩ = some (.slice r.a4 s.cnt.length r.k4))∧V.cell? ⟨bm,om+n * 3,none⟩ = some (.int .i64 v.event)∧V.cell? ⟨bm,om+n * 3+1,none⟩ = some (.int .i64 v.user)∧V.cell? ⟨bm,om+n * 3+2,none⟩ = some (.slice ai v.vals.length ki)) (by kernel_rfl) (HSF.out _ hbz) (fun hHeld=>?_)
    generalize wr.drew=D at hbz hHeld ⊢
    refine takesH [0,1,2,3,4,5,6,7,8] (by kernel_rfl) (fun _ _ d _ _ h=>by cases d <;> exact h) (by kernel_rfl) (by kernel_rfl) (by assumption) ?_
    repeat (first
     | (refine TakeSeq.cons (v:=?_) rfl (by rfl) ?_ ?_
        rotate_left
        · ((intro w hSw;unfold MdB at hSw;go_simp) <;> (try with_reducible rfl))
        (try go_simp))
     | (refine TakeSeq.skip rfl (by rfl) ?_;(try go_simp)))
    refine TakeSeq.nil ?_
    refine callH2 9 13 (by kernel_rfl) (by kernel_rfl) rfl (by rfl) rfl (by rfl) ?_ ?_
    · intro K hK
      go_simp
      go_at_call 38
      with_reducible refine(HCD.out _ hbz).mono ?_
      rintro e9 W9 ⟨⟨r9,rfl,hS9,hor⟩,hbn⟩
      have hcs:=hbz.size
      have hbz:=hbz.trans (hbn.mono hbz.size)
      clear HCD
      generalize doS M s v=t9 at HDN hS9 hor ⊢
      obtain⟨s9,z9⟩:=t9
      dsimp only at hS9 hor HDN ⊢
      have H9:=Lib.hid (HOR.out D (W9.heap.size) r9 s9 W9 hcs hS9 hor (.inl (Nat.le_refl _)))
      refine hK.out _ _ (HSF.out _ hbz) (fun hHeld=>?_)
      clear hK K hbn hor hcs
      unfold stC
      (try go_simp)
      refine takesH [10,11,12] (by kernel_rfl) (fun _ _ d _ _ h=>by cases d <;> exact h) (by kernel_rfl) (by kernel_rfl) (by assumption) ?_
      repeat (first
       | (refine TakeSeq.cons (v:=?_) rfl (by rfl) ?_ ?_
          rotate_left
          · ((intro w hSw;go_simp) <;> (try with_reducible rfl))
          (try go_simp))
       | (refine TakeSeq.skip rfl (by rfl) ?_;(try go_simp)))
      refine TakeSeq.nil ?_
      refine callH 13 (by kernel_rfl) (by kernel_rfl) rfl (by rfl) ?_
      obtain⟨W8,h8,hb8,x8⟩:=box1 W9 #[.slice none 0 0,.int .i64 0,.int .i64 0,.slice none 0 0,.slice none 0 0] 44
      have hle8:wr.heap.size≤W9.heap.size:=hbz.size
      replace hS9:=hS9.below hb8
      intro K hK
      go_simp
      have hbz:=hbz.trans (hb8.mono hbz.size)
      refine hK.out _ _ (HSF.out _ hbz) (fun hHeld=>?_)
      clear hK K hb8
      (try go_simp)
      have u0:=x8.cell (i:=0) rfl
      have t0:=x8.free 0
      have u1:=x8.cell (i:=1) rfl
      have t1:=x8.free 1
      have u2:=x8.cell (i:=2) rfl
      have t2:=x8.free 2
      have u3:=x8.cell (i:=3) rfl
      have t3:=x8.free 3
      have u4:=x8.cell (i:=4) rfl
      have t4:=x8.free 4
      refine callH 14 (by kernel_rfl) (by kernel_rfl) rfl (by rfl) ?_
      intro K hK
      go_simp
      refine hK.out _ _ (HSF.out _ (below_put5 hbz hle8 _ _ _ _ _)) (fun hHeld=>?_)
      clear hK K
      (try go_simp)
      refine callH 15 (by kernel_rfl) (by kernel_rfl) rfl (by rfl) ?_
      intro K hK
      go_simp
      refine hK.out _ _ hHeld (fun hHeld=>?_)
      clear hK K
      (try go_simp)
      refine doneH (by kernel_rfl) ?_
      have HBZ:=Lib.hid (below_put5 hbz hle8 (.slice r9.a0 s9.vals.length r9.k0) (.int .i64 s9.opn) (.int .i64 s9.dne) (.slice r9.a3 s9.did.length r9.k3) (.slice r9.a4 s9.cnt.length r9.k4))
      have HX9:=Lib.hid (x8.put5 (.slice r9.a0 s9.vals.length r9.k0) (.int .i64 s9.opn) (.int .i64 s9.dne) (.slice r9.a3 s9.did.length r9.k3) (.slice r9.a4 s9.cnt.length r9.k4))
      have HQ9:=Lib.hid (And.intro (hS9.grown H9.out.2.2 (put5_grown W8 (W9.heap.size) (.slice r9.a0 s9.vals.length r9.k0) (.int .i64 s9.opn) (.int .i64 s9.dne) (.slice r9.a3 s9.did.length r9.k3) (.slice r9.a4 s9.cnt.length r9.k4))) (And.intro H9.out.1 H9.out.2.1))
      have HR9:=Lib.hid (HRA.out.2.grow HBZ.out)
      have HW9:=Lib.hid (HR9.out.2.1)
      rw[HL1.out] at HW9
      have HS9:=Lib.hid HR9.out.1.size
      clear hbz hHeld u0 u1 u2 u3 u4 t0 t1 t2 t3 t4 x8 hS9 H9
      by_cases hz:z9=0
      · subst hz
        have HN9:=Lib.hid (HDN.out.2.2.2 rfl)
        have u0:=HX9.out.cell (i:=0) rfl
        have u1:=HX9.out.cell (i:=1) rfl
        have u2:=HX9.out.cell (i:=2) rfl
        have u3:=HX9.out.cell (i:=3) rfl
        have u4:=HX9.out.cell (i:=4) rfl
        go_wp2_with (first
         | (at_builtin;refine app1_at _ #[.slice r9.a0 s9.vals.length r9.k0,.int .i64 s9.opn,.int .i64 s9.dne,.slice r9.a3 s9.did.length r9.k3,.slice r9.a4 s9.cnt.length r9.k4] rfl _ _ 75 rfl W1.heap.size 44 (.agg #[.slice none 0 0,.int .i64 0,.int .i64 0,.slice none 0 0,.slice none 0 0]) 5 88 Tryz.underlying75 info_state rfl (by decide) (by decide) _ _ _ rfl (by exact HW9.out) rfl (by simp) rfl (by simp[Value.oneCell']) (by omega) HS9.out ?_;intro v5 w5 hown5 hgr5 hbel5 hat5
            have HRN:=Lib.hid (HR9.out.snoc (x:=(r9,s9,0)) ⟨HQ9.out.1,HQ9.out.2.1,by rw[HOB.out];exact HQ9.out.2.2⟩ (by rw[HL1.out];exact hown5) hgr5 hbel5 hat5)
            clear hown5 hgr5 hbel5 hat5)
         | fail)
        (try rw[←hd2])
        go_roundw
        case rel=>exact⟨_,_,v5,.int .i64 ((n:Int)+1),⟨n+1,by go_num,hlt,p ++ [(r,s,0)],r9,s9,HL1.out,HRN.out,HDN.out.1,HDN.out.2.1,HN9.out⟩,rfl,rfl,rfl,rfl⟩
        case measure=>simp[intOf];omega
      · have hb: (z9 !=0)=true:=by simp[hz]
        have HN9:=Lib.hid (HDN.out.2.2.1 hz)
        clear hz
        go_wp2
        go_ret2
        have HE:Ending.returned (.tuple #[.slice (some ⟨b,off,none⟩) (n+1) capp,.int .i64 z9])=.returned (.tuple #[.slice (some ⟨b,off,none⟩) (n+1) capp,.int .i64 (allG M L).2]):=by rw[HN9.out]
        exact⟨⟨_,HE,by rw[HN9.out];exact HR9.out.row HL1.out⟩,HB1.out.trans (HR9.out.1.mono HB1.out.size)⟩
    · obtain⟨W8,h8,hb8,x8⟩:=box1 D #[.slice none 0 0,.int .i64 0,.int .i64 0,.slice none 0 0,.slice none 0 0] 44
      have hle8:wr.heap.size≤D.heap.size:=hbz.size
      intro K hK
      go_simp
      have hbz:=hbz.trans (hb8.mono hbz.size)
      refine hK.out _ _ (HSF.out _ hbz) (fun hHeld=>?_)
      clear hK K hb8
      (try go_simp)
      refine callH 9 (by kernel_rfl) (by kernel_rfl) rfl (by rfl) ?_
      intro K hK
      go_simp
      go_at_call 38
      with_reducible refine(HCD.out _ hbz).mono ?_
      rintro e9 W9 ⟨⟨r9,rfl,hS9,hor⟩,hbn⟩
      have hcs:=hbz.size
      have hbz:=hbz.trans (hbn.mono hbz.size)
      clear HCD
      generalize doS M s v=t9 at HDN hS9 hor ⊢
      obtain⟨s9,z9⟩:=t9
      dsimp only at hS9 hor HDN ⊢
      have H9:=Lib.hid (HOR.out W8 (D.heap.size) r9 s9 W9 hcs hS9 hor (.inr ⟨hle8,x8.lt⟩))
      replace x8:=x8.keep hbn
      refine hK.out _ _ (HSF.out _ hbz) (fun hHeld=>?_)
      clear hK K hbn hor hcs
      unfold stC
      (try go_simp)
      refine takesH [10,11,12] (by kernel_rfl) (fun _ _ d _ _ h=>by cases d <;> exact h) (by kernel_rfl) (by kernel_rfl) (by assumption) ?_
      repeat (first
       | (refine TakeSeq.cons (v:=?_) rfl (by rfl) ?_ ?_
          rotate_left
          · ((intro w hSw;go_simp) <;> (try with_reducible rfl))
          (try go_simp))
       | (refine TakeSeq.skip rfl (by rfl) ?_;(try go_simp)))
      refine TakeSeq.nil ?_
      have u0:=x8.cell (i:=0) rfl
      have t0:=x8.free 0
      have u1:=x8.cell (i:=1) rfl
      have t1:=x8.free 1
      have u2:=x8.cell (i:=2) rfl
      have t2:=x8.free 2
      have u3:=x8.cell (i:=3) rfl
      have t3:=x8.free 3
      have u4:=x8.cell (i:=4) rfl
      have t4:=x8.free 4
      refine callH 14 (by kernel_rfl) (by kernel_rfl) rfl (by rfl) ?_
      intro K hK
      go_simp
      refine hK.out _ _ (HSF.out _ (below_put5 hbz hle8 _ _ _ _ _)) (fun hHeld=>?_)
      clear hK K
      (try go_simp)
      refine callH 15 (by kernel_rfl) (by kernel_rfl) rfl (by rfl) ?_
      intro K hK
      go_simp
      refine hK.out _ _ hHeld (fun hHeld=>?_)
      clear hK K
      (try go_simp)
      refine doneH (by kernel_rfl) ?_
      have HBZ:=Lib.hid (below_put5 hbz hle8 (.slice r9.a0 s9.vals.length r9.k0) (.int .i64 s9.opn) (.int .i64 s9.dne) (.slice r9.a3 s9.did.length r9.k3) (.slice r9.a4 s9.cnt.length r9.k4))
      have HX9:=Lib.hid (x8.put5 (.slice r9.a0 s9.vals.length r9.k0) (.int .i64 s9.opn) (.int .i64 s9.dne) (.slice r9.a3 s9.did.length r9.k3) (.slice r9.a4 s9.cnt.length r9.k4))
      have HQ9:=Lib.hid (And.intro (hS9.grown H9.out.2.2 (put5_grown W9 (D.heap.size) (.slice r9.a0 s9.vals.length r9.k0) (.int .i64 s9.opn) (.int .i64 s9.dne) (.slice r9.a3 s9.did.length r9.k3) (.slice r9.a4 s9.cnt.length r9.k4))) (And.intro H9.out.1 H9.out.2.1))
      have HR9:=Lib.hid (HRA.out.2.grow HBZ.out)
      have HW9:=Lib.hid (HR9.out.2.1)
      rw[HL1.out] at HW9
      have HS9:=Lib.hid HR9.out.1.size
      clear hbz hHeld u0 u1 u2 u3 u4 t0 t1 t2 t3 t4 x8 hS9 H9
      by_cases hz:z9=0
      · subst hz
        have HN9:=Lib.hid (HDN.out.2.2.2 rfl)
        have u0:=HX9.out.cell (i:=0) rfl
        have u1:=HX9.out.cell (i:=1) rfl
        have u2:=HX9.out.cell (i:=2) rfl
        have u3:=HX9.out.cell (i:=3) rfl
        have u4:=HX9.out.cell (i:=4) rfl
        go_wp2_with (first
         | (at_builtin;refine app1_at _ #[.slice r9.a0 s9.vals.length r9.k0,.int .i64 s9.opn,.int .i64 s9.dne,.slice r9.a3 s9.did.length r9.k3,.slice r9.a4 s9.cnt.length r9.k4] rfl _ _ 75 rfl W1.heap.size 44 (.agg #[.slice none 0 0,.int .i64 0,.int .i64 0,.slice none 0 0,.slice none 0 0]) 5 88 Tryz.underlying75 info_state rfl (by decide) (by decide) _ _ _ rfl (by exact HW9.out) rfl (by simp) rfl (by simp[Value.oneCell']) (by omega) HS9.out ?_;intro v5 w5 hown5 hgr5 hbel5 hat5
            have HRN:=Lib.hid (HR9.out.snoc (x:=(r9,s9,0)) ⟨HQ9.out.1,HQ9.out.2.1,by rw[HOB.out];exact HQ9.out.2.2⟩ (by rw[HL1.out];exact hown5) hgr5 hbel5 hat5)
            clear hown5 hgr5 hbel5 hat5)
         | fail)
        (try rw[←hd2])
        go_roundw
        case rel=>exact⟨_,_,v5,.int .i64 ((n:Int)+1),⟨n+1,by go_num,hlt,p ++ [(r,s,0)],r9,s9,HL1.out,HRN.out,HDN.out.1,HDN.out.2.1,HN9.out⟩,rfl,rfl,rfl,rfl⟩
        case measure=>simp[intOf];omega
      · have hb: (z9 !=0)=true:=by simp[hz]
        have HN9:=Lib.hid (HDN.out.2.2.1 hz)
        clear hz
        go_wp2
        go_ret2
        have HE:Ending.returned (.tuple #[.slice (some ⟨b,off,none⟩) (n+1) capp,.int .i64 z9])=.returned (.tuple #[.slice (some ⟨b,off,none⟩) (n+1) capp,.int .i64 (allG M L).2]):=by rw[HN9.out]
        exact⟨⟨_,HE,by rw[HN9.out];exact HR9.out.row HL1.out⟩,HB1.out.trans (HR9.out.1.mono HB1.out.size)⟩
  · have hne:n=L.length:=by omega
    have hge':=nltI (Nat.not_lt.2 hge)
    have HAE:Hid (allG M L= ((p ++ [(r,s,(0:Int))]).map (fun x=>x.2.1),0)):=by
     rw[hne,List.drop_length,runG] at hAll
     unfold Hid;rw[hAll];simp
    have HRA:=Lib.hid hRa
    have HL1:=Lib.hid hl1
    clear hpl hRa hOk hBd hAll hown hlast hmem HI hl1 hne
    go_wp2
    go_ret2
    have HE:Ending.returned (.tuple #[.slice adp (n+1) capp,.int .i64 0])=.returned (.tuple #[.slice adp (n+1) capp,.int .i64 (allG M L).2]):=by rw[HAE.out]
    exact⟨⟨_,HE,by rw[HAE.out];exact HRA.out.row HL1.out⟩,HB1.out.trans (HRA.out.1.mono HB1.out.size)⟩
end Go.Proofs.YtadjnfpomjopkaaGreat
