import Derived.Test.YtadjnfpomjopkaaGreatSm44
import Derived.Test.YtadjnfpomjopkaaGreatSm02
import Derived.Laws.OwnMore
import Derived.Test.YtadjnfpomjopkaaGreatSm05
import Derived.Deep.DeepCutAuto
namespace Go.Proofs.YtadjnfpomjopkaaGreat
open Go.RowKit
theorem run_app_none {P:Program} {w:World} {base:Nat} (t ty e:TypeId) (i:TypeInfo) (size cap0:Nat) (ht:P.underlying t=some (.slice e)) (hi:P.info? e=some i)
 (v:Value) (n:Nat) (xs:List Value) (hown:w.ownsRow base e size v n xs) :
 (Builtin.append_ #[t,t] ty #[v,.slice none 0 cap0]).run P w=.ok v w:=by
 rcases hown.2 with⟨rfl,rfl⟩ | ⟨g,cap,cur,rfl,_,_,hnc,_⟩
 · simp[Builtin.append_,run_underlying ht,sizeOf,typeInfo,hi,Builtin.lenOf,Builtin.firstCells]
 · simp[Builtin.append_,run_underlying ht,sizeOf,typeInfo,hi,Builtin.lenOf,Builtin.firstCells,hnc,storeCells]
def smZero:Value:=.agg #[.int .i64 0,.string ⟨#[]⟩,.int .i64 0,.int .i64 0,.int .i64 0,.slice none 0 0,.string ⟨#[]⟩,.string ⟨#[]⟩,.string ⟨#[]⟩,.int .i64 0,.slice none 0 0,.bool false]
theorem info_stmt: (Tryz.prog.info? 63).map (fun i=>(i.zero,i.size,i.bytes))=some (some smZero,12,160):=by kernel_rfl
def SmOne (x:Sm):Prop:=x.nv.oneCell'=true∧x.iv.oneCell'=true
theorem smCells_one {x:Sm} (h:SmOne x):∀ u ∈ smCells x,u.oneCell'=true:=by
 intro u hu
 simp only[smCells,List.mem_cons,List.not_mem_nil,or_false] at hu
 rcases hu with rfl|rfl|rfl|rfl|rfl|rfl|rfl|rfl|rfl|rfl|rfl|rfl <;> first|rfl|exact h.1|exact h.2
theorem smFlat_one {L:List Sm} (h:∀ x ∈ L,SmOne x):∀ u ∈ smFlat L,u.oneCell'=true:=by
 intro u hu
 obtain⟨x,hx,hu⟩:=List.mem_flatMap.1 hu
 exact smCells_one (h x hx) u hu
theorem SmOK.one {w:World} {x:Sm} (h:SmOK w x):SmOne x:=by
 obtain⟨a,b,e,_⟩:=h.1
 obtain⟨c,d,f,_⟩:=h.2
 exact⟨by rw[e];rfl,by rw[f];rfl⟩
theorem appS {ops:Array Oper} {rest:List Oper} {o:Oper} {a:Act} {Q:Exit→Act→World→Prop} (w:World) (hgd:o.guard=none) (s x:Operand)
 (ho:o.op=.call { callee:=.builtin .append,args:=#[s,x],argTypes:=#[64,64] })
 (base:Nat) (v:Value) (n:Nat) (xs:List Value) (hs:a.eval s=v) (hown:w.ownsRow base 63 12 v n xs)
 (vx:Value) (L:List Sm) (hx:a.eval x=vx) (hr:SmIn w vx L) (h1:∀ y ∈ L,SmOne y)
 (hbytes:n+L.length≤100000) (hbase:base≤w.heap.size)
 (h:∀ v' w',w'.ownsRow base 63 12 v' (n+L.length) (xs ++smFlat L)→Below base w w'→wpList Tryz.prog ops Q rest (a.put o.dst v') w') :
 wpList Tryz.prog ops Q (o :: rest) a w:=by
 obtain⟨i,hi,hz0,hz1,hz2⟩:=info_parts info_stmt
 have ht:Tryz.prog.underlying 64=some (.slice 63):=Tryz.underlying64
 have h63:n+L.length≤maxLen:=by unfold maxLen;omega
 have hlen:=smFlat_len L
 have key:∀ ad m c,vx=.slice (some ad) m c→L.length=m→(∀ j u,(smFlat L)[j]?=some u→w.cell? (ad.add j)=some u)→wpList Tryz.prog ops Q (o :: rest) a w:=by
  intro ad m c hv hm hnews
  refine wpList_append_own w hgd s x _ ho base _ i smZero 12 160 ht hi hz0 hz1 hz2 rfl (by decide) v n xs hs hown ad m c (smFlat L) (hx.trans hv) (by omega) hnews (smFlat_one h1) (by omega) (by omega) hbase ?_
  intro v' w' ho' hg _
  exact h v' w' (by rw[hm];exact ho') (below_of_grown hg (fun k hk=>(hown.lt k hk).1) hbase)
 obtain⟨ad,cap,hv,_,hr⟩:=hr
 rcases hr with hn| ⟨b,off,rfl,_,hc⟩
 · subst hn
   cases ad with
   | some ad=>exact key ad 0 cap hv rfl (by intro j u hu;simp[smFlat] at hu)
   | none=>
     refine wpList_plain hgd fun K hK=>?_
     have hrun:=run_app_none (P:=Tryz.prog) (w:=w) (base:=base) 64 o.type _ i 12 cap ht hi v n xs hown
     have hx':a.eval x=.slice none 0 cap:=hx.trans hv
     unfold Oper.wp
     simp[execOp,ho,resolve,invoke,builtin,hs,hx',hrun,Result.andThen]
     exact hK _ _ (h v w (by simpa [smFlat] using hown) (Below.refl _ _))
 · refine key ⟨b,off,none⟩ _ cap hv rfl (fun j u hu=>?_)
   have hj:=(List.getElem?_eq_some_iff.1 hu).1
   have e: (⟨b,off,none⟩:Addr).add j= ⟨b,off+j,none⟩:=by unfold Addr.add;split <;> simp_all
   have hk:j / 12 < L.length:=by omega
   have hy:=List.getElem?_eq_getElem hk
   have c:=hc (j / 12) _ hy (j % 12) (Nat.mod_lt _ (by decide))
   have f:=smFlat_get L (j / 12) (j % 12) _ hy (Nat.mod_lt _ (by decide))
   rw[show j / 12 * 12+j % 12=j by omega] at f
   rw[Nat.add_assoc,show j / 12 * 12+j % 12=j by omega] at c
   rw[e,c,←f,hu]
set_option maxRecDepth 100000 in
set_option maxHeartbeats 1000000 in
theorem clone_any {w:World} {v:Value} {L:List Sm} (h:SmIn w v L) (h1:∀ y ∈ L,SmOne y) (hl:L.length≤100000) :
 Calls Tryz.prog 24 #[v] w fun e w'=>∃ v',e=.returned v'∧w'.ownsRow w.heap.size 63 12 v' L.length (smFlat L)∧Below w.heap.size w w':=by
 have hb0:Below w.heap.size w (w.alloc (.cells #[] 63)):=(Below.refl _ w).alloc (Nat.le_refl _) _
 have own0: (w.alloc (.cells #[] 63)).ownsRow w.heap.size 63 12 (.slice (some ⟨w.heap.size,0,none⟩) 0 0) 0 []:=World.ownsRow_lit w #[] 0 (Nat.le_refl _) (Nat.zero_le _) rfl
 have r1:=h.keep hb0
 have HB0:=Lib.hid hb0
 obtain⟨ad,cap,hv⟩:=h.len
 subst hv
 clear hb0
 cases ad with
 | none=>
   have hL:L= []:=by
    obtain⟨ad,cap2,he,_,hr⟩:=h
    rcases hr with hr| ⟨g,off,ha,_⟩
    · exact hr
    · simp only[Value.slice.injEq] at he
      obtain⟨e1,_⟩:=he
      subst e1
      cases ha
   have hc0:cap=0:=by
    obtain⟨ad,cap2,he,hz,_⟩:=h
    simp only[Value.slice.injEq] at he
    rw[he.2.2];exact hz.1 he.1.symm
   subst hL
   subst hc0
   have hnil:∀ W:World,Sem.run Tryz.prog (binOp .eql 64 (.slice none 0 0) (.slice none 0 0)) W=.ok (.bool true) W:=fun W=>by rfl
   clear h h1 hl own0 r1
   go_enter Tryz.func24,Tryz.ntmps24
   go_wp2
   go_ret
   exact⟨_,rfl,World.ownsRow_nil _ _ _ _,Below.refl _ _⟩
 | some ad=>
   have hnil:∀ W:World,Sem.run Tryz.prog (binOp .eql 64 (.slice (some ad) L.length cap) (.slice none 0 0)) W=.ok (.bool false) W:=fun W=>by rfl
   clear h
   go_enter Tryz.func24,Tryz.ntmps24
   go_wp2_with (first
    | (at_builtin;refine appS _ rfl _ _ rfl w.heap.size _ 0 [] rfl (by exact own0) _ _ rfl r1 h1 (by omega) (by simp) ?_;clear own0;intro v' w2 hown2 hb2)
    | fail)
   rw[Nat.zero_add,List.nil_append] at hown2
   have HO:=Lib.hid (And.intro hown2 (HB0.out.trans hb2))
   clear hown2 hb2
   go_wp2
   go_ret
   exact⟨_,rfl,HO.out.1,HO.out.2⟩
end Go.Proofs.YtadjnfpomjopkaaGreat
namespace Go.Proofs.YtadjnfpomjopkaaGreat
open Go.RowKit
theorem SmIn.take {w:World} {g off cap n i:Nat} {L:List Sm} (h:SmIn w (.slice (some ⟨g,off,none⟩) n cap) L) (hi:i≤L.length) (c:Nat) (hc1:i≤c) (hc2:c≤maxLen):SmIn w (.slice (some ⟨g,off,none⟩) i c) (L.take i):=by
 obtain⟨ad,cap2,he,_,hr⟩:=h
 simp only[Value.slice.injEq] at he
 obtain⟨rfl,_,_⟩:=he
 refine⟨_,c,by rw[List.length_take,Nat.min_eq_left hi],⟨fun e=>(by cases e),by rw[List.length_take,Nat.min_eq_left hi];exact hc1,hc2⟩,?_⟩
 rcases hr with rfl| ⟨g2,off2,ha,hg,hc⟩
 · exact .inl (by simp)
 · refine .inr ⟨g2,off2,ha,hg,fun k x hx j hj=>?_⟩
   refine hc k x ?_ j hj
   rw[List.getElem?_take] at hx
   split at hx
   · exact hx
   · cases hx
theorem SmIn.drop {w:World} {g off cap n i:Nat} {L:List Sm} (h:SmIn w (.slice (some ⟨g,off,none⟩) n cap) L) (c:Nat) (hc1:L.length - i≤c) (hc2:c≤maxLen):SmIn w (.slice (some ⟨g,off+i * 12,none⟩) (L.length - i) c) (L.drop i):=by
 obtain⟨ad,cap2,he,_,hr⟩:=h
 simp only[Value.slice.injEq] at he
 obtain⟨rfl,_,_⟩:=he
 refine⟨_,c,by rw[List.length_drop],⟨fun e=>(by cases e),by rw[List.length_drop];exact hc1,hc2⟩,?_⟩
 rcases hr with rfl| ⟨g2,off2,ha,hg,hc⟩
 · exact .inl (by simp)
 · simp only[Option.some.injEq,Addr.mk.injEq,and_true] at ha
   obtain⟨rfl,rfl⟩:=ha
   refine .inr ⟨g,off+i * 12,rfl,hg,fun k x hx j hj=>?_⟩
   have:=hc (i+k) x (by rw[List.getElem?_drop] at hx;exact hx) j hj
   rw[show off+i * 12+k * 12+j=off+ (i+k) * 12+j by omega]
   exact this
theorem SmIn.zero {w:World} {a:Addr} {n:Nat} {L:List Sm} (hL:L= []) (hn:n=0):SmIn w (.slice (some a) n 0) L:=by
 subst hL
 subst hn
 exact⟨some a,0,rfl,⟨fun _=>rfl,Nat.le_refl _,Nat.zero_le _⟩,.inl rfl⟩
set_option maxRecDepth 100000 in
set_option maxHeartbeats 2000000 in
theorem withoutSm_any {w:World} {v:Value} {L:List Sm} (h:SmIn w v L) (h1:∀ y ∈ L,SmOne y) {i:Nat} (hi:i < L.length) (hl:L.length≤10000) :
 Calls Tryz.prog 39 #[v,.int .i64 i] w fun e w'=>∃ v',e=.returned v'∧w'.ownsRow w.heap.size 63 12 v' (L.take i ++L.drop (i+1)).length (smFlat (L.take i ++L.drop (i+1)))∧Below w.heap.size w w':=by
 obtain⟨x,hx⟩:∃ x,L[i]?=some x:=⟨_,List.getElem?_eq_getElem hi⟩
 obtain⟨g,off,cap,hv,hgl,-⟩:=h.at hx
 subst hv
 have hiz: (i:Int) < (L.length:Int):=by omega
 have hcap:L.length≤cap∧cap≤maxLen:=by
  obtain⟨_,_,he,hz,_⟩:=h
  simp only[Value.slice.injEq] at he
  rw[he.2.2];exact hz.2
 obtain⟨hcl,hcm⟩:=hcap
 obtain⟨ii,hii,hz0,hz1,hz2⟩:=info_parts info_stmt
 obtain⟨W1,hmk,own1,hg1⟩:=run_make_own (P:=Tryz.prog) w w.heap.size 64 63 ii smZero 12 Tryz.underlying64 hii hz0 hz1 .i64 .i64 L.length (by rw[hz2];omega) (by unfold maxLen;omega) (Nat.le_refl _)
 have hb1:Below w.heap.size w W1:=below_of_grown hg1 (fun k hk=>by cases hk) (Nat.le_refl _)
 have HB1:=Lib.hid hb1
 have HI:=Lib.hid h
 have HOWN:=Lib.hid own1
 have hw1:wrap64 ((i:Int)+1)= (i:Int)+1:=by unfold wrap64;omega
 have hw2: ((i:Int)+1).toNat=i+1:=by omega
 have hiz1: (i:Int)+1≤(L.length:Int):=by omega
 have hlt1: (L.take i).length=i:=by rw[List.length_take,Nat.min_eq_left (by omega)]
 have hlt2: (L.drop (i+1)).length=L.length - (i+1):=List.length_drop
 clear h hx x hg1 hb1 own1 hii hz0 hz1 hz2
 go_enter Tryz.func39,Tryz.ntmps39
 have hcm':cap≤9223372036854775807:=by unfold maxLen at hcm;omega
 have hic:i≤cap:=by omega
 go_upto_region 3 with(first
  | (at_builtin;refine appS W1 rfl _ _ rfl w.heap.size _ 0 [] rfl (by exact HOWN.out) _ (L.take i) rfl (((HI.out.keep HB1.out).take (by omega) _ (by omega) (by omega))) (fun y hy=>h1 y (List.mem_of_mem_take hy)) (by rw[hlt1];omega) HB1.out.size ?_
     intro v2 w2 hown2 hb2
     have HB2:=Lib.hid (HB1.out.trans hb2)
     rw[Nat.zero_add,List.nil_append,hlt1] at hown2
     obtain⟨ad2,cap2,hv2⟩:=owns_len hown2
     subst hv2
     have HO2:=Lib.hid hown2
     clear hown2 hb2)
  | fail)
 have HLE:Hid (i+ (L.drop (i+1)).length= (L.take i ++L.drop (i+1)).length):=by unfold Hid;rw[List.length_append,hlt1]
 by_cases hci:cap=i+1
 · subst hci
   go_wp2_with (first
    | (at_builtin;refine appS _ rfl _ _ rfl w.heap.size _ _ _ rfl (by exact HO2.out) _ (L.drop (i+1)) rfl (SmIn.zero (List.drop_eq_nil_of_le (by omega)) (by omega)) (fun y hy=>h1 y (List.mem_of_mem_drop hy)) (by rw[hlt2];omega) HB2.out.size ?_
       intro v3 w3 hown3 hb3
       have HB3:=Lib.hid (HB2.out.trans hb3)
       rw[←smFlat_app,HLE.out] at hown3
       have HO3:=Lib.hid hown3
       clear hown3 hb3)
    | fail)
   go_ret
   exact⟨_,rfl,HO3.out,HB3.out⟩
 · have hci':¬cap - (i+1)=0:=by omega
   go_wp2_with (first
    | (at_builtin;refine appS _ rfl _ _ rfl w.heap.size _ _ _ rfl (by exact HO2.out) _ (L.drop (i+1)) rfl ((HI.out.keep HB2.out).drop _ (by omega) (by omega)) (fun y hy=>h1 y (List.mem_of_mem_drop hy)) (by rw[hlt2];omega) HB2.out.size ?_
       intro v3 w3 hown3 hb3
       have HB3:=Lib.hid (HB2.out.trans hb3)
       rw[←smFlat_app,HLE.out] at hown3
       have HO3:=Lib.hid hown3
       clear hown3 hb3)
    | fail)
   go_ret
   exact⟨_,rfl,HO3.out,HB3.out⟩
end Go.Proofs.YtadjnfpomjopkaaGreat
namespace Go.Proofs.YtadjnfpomjopkaaGreat
open Go.RowKit
def msrN (m:Int):Nat:=if m= -1 then 10002 else m.toNat
def msr (v:Value):Nat:=msrN (intOf v)
theorem msr_val (m:Int):msr (.int .i64 m)=if m= -1 then 10002 else m.toNat:=rfl
def lessS (i:Nat) (L:List Sm):List Sm:=L.take i ++L.drop (i+1)
theorem lessS_len {i:Nat} {L:List Sm} (h:i < L.length): (lessS i L).length+1=L.length:=by
 unfold lessS;rw[List.length_append,List.length_take,List.length_drop];omega
theorem lessS_mem {i:Nat} {L:List Sm} {y:Sm} (h:y ∈ lessS i L):y ∈ L:=by
 unfold lessS at h
 rcases List.mem_append.1 h with h|h
 · exact List.mem_of_mem_take h
 · exact List.mem_of_mem_drop h
def passS (p:List Sm→Bool):Nat→List Sm→List Sm
 | 0,L=>L
 | i+1,L=>if p (lessS i L) then passS p i (lessS i L) else passS p i L
theorem passS_len (p:List Sm→Bool):∀ (i:Nat) (L:List Sm),i≤L.length→(passS p i L).length≤L.length
 | 0,L,_=>Nat.le_refl _
 | i+1,L,h=>by
   rw[passS]
   have hl:=lessS_len (show i < L.length by omega)
   split
   · have:=passS_len p i (lessS i L) (by omega);omega
   · exact passS_len p i L (by omega)
theorem passS_mem (p:List Sm→Bool):∀ (i:Nat) (L:List Sm) {y:Sm},y ∈ passS p i L→y ∈ L
 | 0,L,y,h=>h
 | i+1,L,y,h=>by
   rw[passS] at h
   split at h
   · exact lessS_mem (passS_mem p i _ h)
   · exact passS_mem p i L h
theorem passS_same (p:List Sm→Bool):∀ (i:Nat) (L:List Sm),i≤L.length→(passS p i L).length=L.length→passS p i L=L
 | 0,L,_,_=>rfl
 | i+1,L,h,e=>by
   rw[passS] at e ⊢
   have hl:=lessS_len (show i < L.length by omega)
   split at e
   · have:=passS_len p i (lessS i L) (by omega);omega
   · rename_i hp
     rw[if_neg hp]
     exact passS_same p i L (by omega) e
def runS (p:List Sm→Bool):Nat→List Sm→List Sm
 | 0,L=>L
 | k+1,L=>if(passS p L.length L).length=L.length then L else runS p k (passS p L.length L)
def shrinkS (p:List Sm→Bool) (L:List Sm):List Sm:=if p L then runS p (L.length+1) L else L
theorem runS_stop {p:List Sm→Bool} {k:Nat} {L R:List Sm} (hk:L.length < k) (h:runS p k L=R) (e: (passS p L.length L).length=L.length):R=L:=by
 obtain⟨k,rfl⟩:∃ q,k=q+1:=⟨k - 1,by omega⟩
 rw[runS,if_pos e] at h;exact h.symm
theorem runS_go {p:List Sm→Bool} {k:Nat} {L R:List Sm} (hk:L.length < k) (h:runS p k L=R) (e: (passS p L.length L).length≠L.length):∃ j,(passS p L.length L).length < j∧runS p j (passS p L.length L)=R:=by
 obtain⟨k,rfl⟩:∃ q,k=q+1:=⟨k - 1,by omega⟩
 rw[runS,if_neg e] at h
 have:=passS_len p L.length L (Nat.le_refl _)
 exact⟨k,by omega,h⟩
def msr2 (v b:Value):Nat:=match v,b with|.slice _ n _,.bool true=>n+1|_,_=>0
def anyB (C:List Sm):Bool:=decide (0 < C.length)
end Go.Proofs.YtadjnfpomjopkaaGreat
namespace Go.Proofs.YtadjnfpomjopkaaGreat
open Go.RowKit
set_option maxRecDepth 100000 in
set_option maxHeartbeats 4000000 in
theorem shrunkSm_any {w:World} {v:Value} {L:List Sm} (h:SmIn w v L) (h1:∀ y ∈ L,SmOne y) (hl:L.length≤10000) :
 Calls Tryz.prog 25 #[v,.func (.func 15) #[] #[]] w fun e w'=>∃ v',e=.returned v'∧SmIn w' v' (shrinkS (anyB) L)∧Below w.heap.size w w':=by
 obtain⟨P,hP⟩:∃ P:List Sm→Bool,anyB=P:=⟨_,rfl⟩
 have HH:Hid (∀ (W:World) (u:Value) (C:List Sm) (base:Nat),Below w.heap.size w W→W.ownsRow base 63 12 u C.length (smFlat C)→C.length≤100000→Calls Tryz.prog 15 #[u] W fun e w'=>e=.returned (.bool (P C))∧Below base W w'):=by
  intro W u C base hW hrow hlen
  rw[←hP]
  unfold anyB
  obtain⟨ad,cap,hu⟩:=owns_len hrow
  subst hu
  obtain⟨m,hm⟩:∃ m,C.length=m:=⟨_,rfl⟩
  rw[hm] at hlen ⊢
  clear hrow hm hW
  go_enter Tryz.func15,Tryz.ntmps15
  go_wp2
  go_ret
  exact⟨rfl,Below.refl _ _⟩
 have HC:Hid (∀ (W:World) (u:Value) (C:List Sm),SmIn W u C→(∀ y ∈ C,y ∈ L)→C.length≤10000→Calls Tryz.prog 24 #[u] W fun e w'=>∃ v',e=.returned v'∧w'.ownsRow W.heap.size 63 12 v' C.length (smFlat C)∧Below W.heap.size W w'):=fun W u C hu hC hlen=>clone_any hu (fun y hy=>h1 y (hC y hy)) (by omega)
 have HWO:Hid (∀ (W:World) (u:Value) (C:List Sm) (i:Nat),SmIn W u C→(∀ y ∈ C,y ∈ L)→i < C.length→C.length≤10000→Calls Tryz.prog 39 #[u,.int .i64 i] W fun e w'=>∃ v',e=.returned v'∧w'.ownsRow W.heap.size 63 12 v' (lessS i C).length (smFlat (lessS i C))∧Below W.heap.size W w'):=fun W u C i hu hC hi hlen=>withoutSm_any hu (fun y hy=>h1 y (hC y hy)) hi hlen
 rw[hP]
 obtain⟨R,hRS⟩:∃ R,shrinkS P L=R:=⟨_,rfl⟩
 have HRS:=Lib.hid hRS
 rw[hRS]
 obtain⟨ad,cap,hv⟩:=h.len
 subst hv
 have HI:=Lib.hid h
 clear h h1 hP hRS
 go_enter Tryz.func25,Tryz.ntmps25
 go_wp2_with fail
 refine(HC.out _ _ _ HI.out (fun y hy=>hy) hl).mono ?_
 rintro e w1 ⟨v1,rfl,hr1,hb1⟩
 obtain⟨ad1,cap1,hv1⟩:=owns_len hr1
 subst hv1
 have HB1:=Lib.hid hb1
 have HI1:=Lib.hid (SmIn.of_row hr1)
 have HII1:=Lib.hid (HI.out.keep hb1)
 clear hr1 hb1
 go_wp2_with fail
 refine(HC.out _ _ _ HII1.out (fun y hy=>hy) hl).mono ?_
 rintro e w2 ⟨v2,rfl,hr2,hb2⟩
 have HB2:=Lib.hid (HB1.out.trans (hb2.mono HB1.out.size))
 have HI2:=Lib.hid (HI1.out.keep hb2)
 have HR2:=Lib.hid hr2
 have HQ:=Lib.hid hb2
 clear hr2 hb2
 go_wp2_with fail
 refine(HH.out _ _ _ _ HB2.out HR2.out (by omega)).mono ?_
 rintro e w3 ⟨rfl,hb3⟩
 have HB3:=Lib.hid (HB2.out.trans (hb3.mono HB1.out.size))
 have HI3:=Lib.hid (HI1.out.keep (HQ.out.trans hb3))
 obtain⟨b,hb⟩:∃ b,P L=b:=⟨_,rfl⟩
 rw[hb]
 have HPL:=Lib.hid hb
 clear hb3 hb HB2 HI2 HR2 HQ HII1 HI1 HB1
 cases b
 · have HS:Hid (R=L):=by unfold Hid;rw[←HRS.out];unfold shrinkS;rw[HPL.out];rfl
   go_wp2
   go_ret
   exact⟨_,rfl,by rw[HS.out];exact HI3.out,HB3.out⟩
 · have HR0:Hid (runS P (L.length+1) L=R):=by unfold Hid;rw[←HRS.out];unfold shrinkS;rw[HPL.out];rfl
   go_wp2
   go_loopw [5,6] (fun vo n wr=>∃ (M:List Sm) (m:Int),n=.int .i64 m∧ -1≤m∧m≤10000∧M.length≤10000∧Hid (SmIn wr vo M∧(∀ y ∈ M,y ∈ L)∧Below w.heap.size w wr∧(((∃ k,M.length < k∧runS P k M=R)∧m≠(M.length:Int)∧(m= -1∨(M.length:Int) < m))∨(m= (M.length:Int)∧R=M)))) (fun _ n _=>msr n)
   case atStart=>exact⟨L,-1,rfl,by omega,by omega,hl,HI3.out,fun y hy=>hy,HB3.out,.inl ⟨⟨L.length+1,by omega,HR0.out⟩,by omega,.inl rfl⟩⟩
   case round=>
    obtain⟨M,m,rfl,hm0,hm1,hml,HALL⟩:=hrel
    obtain⟨hM,hmem,hB,hcase⟩:=HALL.out
    obtain⟨adM,capM,hvM⟩:=hM.len
    subst hvM
    by_cases hne:m= (M.length:Int)
    · have HF:Hid (R=M):=by
       rcases hcase with⟨_,h,_⟩ | ⟨_,h⟩
       · exact absurd hne h
       · exact h
      have hneb: (m != (M.length:Int))=false:=by simpa using hne
      have HM:=Lib.hid (And.intro hM hB)
      clear hM hmem hB hcase HALL hne
      go_wp2
      go_ret
      exact⟨_,rfl,by rw[HF.out];exact HM.out.1,HM.out.2⟩
    · obtain⟨⟨kk,hkk,hrun⟩,_,hmm⟩: (∃ k,M.length < k∧runS P k M=R)∧m≠(M.length:Int)∧(m= -1∨(M.length:Int) < m):=by
       rcases hcase with h| ⟨h,_⟩
       · exact h
       · exact absurd h hne
      have hneb: (m != (M.length:Int))=true:=by simpa using hne
      obtain⟨M2,hM2⟩:∃ M2,passS P M.length M=M2:=⟨_,rfl⟩
      have HM:=Lib.hid (And.intro hM (And.intro hmem hB))
      have HP2:=Lib.hid hM2
      have HRUN:=Lib.hid (And.intro hkk hrun)
      have HMM:=Lib.hid hmm
      have hnm:-1≤(M.length:Int) - 1:=by omega
      obtain⟨wo,hwo⟩:∃ w',wr=w':=⟨_,rfl⟩
      rw[hwo] at HM ⊢
      clear hM hmem hB hcase HALL hne hM2 hkk hrun hmm hwo
      go_wp2
      go_loopw [5,7] (fun vo i wr=>∃ (C:List Sm) (j:Int),i=.int .i64 j∧ -1≤j∧j < 10000∧j < (C.length:Int)∧C.length≤10000∧Hid (SmIn wr vo C∧(∀ y ∈ C,y ∈ L)∧Below w.heap.size w wr∧passS P (j+1).toNat C=M2∧C.length≤M.length)) (fun _ i _=>(intOf i+1).toNat)
      case atStart=>exact⟨M,_,rfl,hnm,by omega,by omega,hml,HM.out.1,HM.out.2.1,HM.out.2.2,by rw[show((M.length:Int) - 1+1).toNat=M.length by omega];exact HP2.out,Nat.le_refl _⟩
      case round=>
       obtain⟨C,j,rfl,hj0,hj1,hjc,hcl,HALL⟩:=hrel
       obtain⟨hC,hmem,hB,hpass,hCM⟩:=HALL.out
       obtain⟨adC,capC,hvC⟩:=hC.len
       subst hvC
       by_cases hneg:j < 0
       · have hj:j= -1:=by omega
         subst hj
         have HE:Hid (C=M2):=hpass
         have HCC:=Lib.hid (And.intro hC (And.intro hmem (And.intro hB hCM)))
         clear hC hmem hB hpass hCM HALL hneg hj0 hj1 hjc
         go_wp2
         go_roundw
         case rel=>
          refine⟨C,(M.length:Int),rfl,by omega,by omega,hcl,HCC.out.1,HCC.out.2.1,HCC.out.2.2.1,?_⟩
          by_cases he:C.length=M.length
          · refine .inr ⟨by omega,?_⟩
            have hp2: (passS P M.length M).length=M.length:=by rw[HP2.out,←HE.out];exact he
            rw[runS_stop HRUN.out.1 HRUN.out.2 hp2,HE.out,←HP2.out,passS_same P M.length M (Nat.le_refl _) hp2]
          · refine .inl ⟨?_,by omega,.inr (by have:=HCC.out.2.2.2;omega)⟩
            have hp2: (passS P M.length M).length≠M.length:=by rw[HP2.out,←HE.out];exact he
            have hgo:=runS_go HRUN.out.1 HRUN.out.2 hp2
            rw[HP2.out,←HE.out] at hgo
            exact hgo
         case measure=>
          have:=HMM.out
          show msr (.int .i64 (M.length:Int)) < msr (.int .i64 m)
          rw[msr_val,msr_val,if_neg (show ¬((M.length:Int)= -1) by omega)]
          by_cases hm1:m= -1
          · rw[if_pos hm1];omega
          · rw[if_neg hm1];omega
       · obtain⟨jn,rfl⟩:∃ jn:Nat,j= (jn:Int):=⟨j.toNat,by omega⟩
         have hjn:jn < C.length:=by omega
         have hll:=lessS_len hjn
         have HNX:Hid ((P (lessS jn C)=true→passS P jn (lessS jn C)=M2)∧(P (lessS jn C)=false→passS P jn C=M2)):=by
          rw[show((jn:Int)+1).toNat=jn+1 by omega] at hpass
          rw[passS] at hpass
          refine⟨fun h=>by rw[if_pos h] at hpass;exact hpass,fun h=>by rw[if_neg (by rw[h];decide)] at hpass;exact hpass⟩
         have HLM:Hid (∀ y ∈ lessS jn C,y ∈ L):=fun y hy=>hmem y (lessS_mem hy)
         have HW:=Lib.hid (HWO.out _ _ C jn hC hmem hjn hcl)
         have HCC:=Lib.hid (And.intro hC (And.intro hmem (And.intro hB hCM)))
         have hjz: (0:Int)≤(jn:Int):=by omega
         obtain⟨D,hD⟩:∃ D,lessS jn C=D:=⟨_,rfl⟩
         rw[hD] at hll HNX HLM HW
         clear hC hmem hB hpass hCM HALL hneg hj0 hD
         go_wp2_with fail
         refine HW.out.mono ?_
         rintro e w4 ⟨v4,rfl,hr4,hb4⟩
         obtain⟨ad4,cap4,hv4⟩:=owns_len hr4
         subst hv4
         have HI4:=Lib.hid (SmIn.of_row hr4)
         have HB4:=Lib.hid (HCC.out.2.2.1.trans (hb4.mono HCC.out.2.2.1.size))
         have HC4:=Lib.hid (HCC.out.1.keep hb4)
         clear hr4 hb4
         go_wp2_with fail
         refine(HC.out _ _ _ HI4.out HLM.out (by omega)).mono ?_
         rintro e w5 ⟨v5,rfl,hr5,hb5⟩
         have HB5:=Lib.hid (HB4.out.trans (hb5.mono HB4.out.size))
         have HR5:=Lib.hid hr5
         have HQ5:=Lib.hid hb5
         clear hr5 hb5
         go_wp2_with fail
         refine(HH.out _ _ _ _ HB5.out HR5.out (by omega)).mono ?_
         rintro e w6 ⟨rfl,hb6⟩
         have HB6:=Lib.hid (HB5.out.trans (hb6.mono HB4.out.size))
         have HI6:=Lib.hid (HI4.out.keep (HQ5.out.trans hb6))
         have HC6:=Lib.hid (HC4.out.keep (HQ5.out.trans hb6))
         obtain⟨b,hb⟩:∃ b,P D=b:=⟨_,rfl⟩
         have HPD:=Lib.hid hb
         rw[hb]
         clear hb6 hb HB5 HR5 HQ5 HB4 HI4 HC4
         cases b
         · have HN:=Lib.hid (HNX.out.2 HPD.out)
           go_wp2
           go_roundw
           case rel=>exact⟨C,(jn:Int) - 1,by go_num,by omega,by omega,by omega,hcl,HC6.out,HCC.out.2.1,HB6.out,by rw[show((jn:Int) - 1+1).toNat=jn by omega];exact HN.out,HCC.out.2.2.2⟩
           case measure=>simp[intOf]
         · have HN:=Lib.hid (HNX.out.1 HPD.out)
           go_wp2
           go_roundw
           case rel=>exact⟨D,(jn:Int) - 1,by go_num,by omega,by omega,by omega,by omega,HI6.out,HLM.out,HB6.out,by rw[show((jn:Int) - 1+1).toNat=jn by omega];exact HN.out,by have:=HCC.out.2.2.2;omega⟩
           case measure=>simp[intOf]
end Go.Proofs.YtadjnfpomjopkaaGreat
namespace Go.Proofs.YtadjnfpomjopkaaGreat
open Go.RowKit
set_option maxRecDepth 100000 in
set_option maxHeartbeats 1000000 in
theorem listSm_any {w:World} {v:Value} {L:List Sm} (h:SmIn w v L) (h1:∀ y ∈ L,SmOne y) (hl:L.length≤10000) :
 Calls Tryz.prog 14 #[v,.func (.func 15) #[] #[]] w fun e w'=>∃ v',e=.returned v'∧SmIn w' v' (shrinkS anyB L)∧Below w.heap.size w w':=by
 have HS:=Lib.hid (shrunkSm_any h h1 hl)
 obtain⟨ad,cap,hv⟩:=h.len
 subst hv
 have hnil:∀ W:World,Sem.run Tryz.prog (binOp .eql 66 (.func (.func 15) #[] #[]) .nilFunc) W=.ok (.bool false) W:=fun W=>by rfl
 clear h h1 hl
 go_enter Tryz.func14,Tryz.ntmps14
 go_wp2_with fail
 refine HS.out.mono ?_
 rintro e w1 ⟨v1,rfl,hi,hb⟩
 have HF:=Lib.hid (And.intro hi hb)
 obtain⟨ad1,cap1,hv1⟩:=hi.len
 subst hv1
 clear hi hb
 go_wp2
 go_ret
 exact⟨_,rfl,HF.out.1,HF.out.2⟩
def awS (s:ByteArray):Sm:=⟨1,s,0,0,0,.slice none 0 0,⟨#[]⟩,⟨#[]⟩,⟨#[]⟩,0,.slice none 0 0,false,[],[]⟩
def awL:List Sm:=[awS ⟨#[97]⟩,awS ⟨#[98]⟩,awS ⟨#[99]⟩]
def awC:Array Value:=(smFlat awL).toArray
theorem awL_in (w:World):SmIn (w.alloc (.cells awC 63)) (.slice (some ⟨w.heap.size,0,none⟩) 3 3) awL:=by
 refine⟨_,_,rfl,⟨fun e=>(by cases e),Nat.le_refl _,by unfold maxLen;omega⟩,.inr ⟨_,_,rfl,by simp,fun k x hx j hj=>?_⟩⟩
 rw[World.cell?_alloc_at _ _ _ _ rfl]
 have hk:=(List.getElem?_eq_some_iff.1 hx).1
 show awC[0+k * 12+j]?=_
 rw[Nat.zero_add,show awC[k * 12+j]?= (smFlat awL)[k * 12+j]? by simp[awC]]
 exact smFlat_get awL k j x hx hj
theorem awL_shr:shrinkS anyB awL= [awS ⟨#[97]⟩]:=rfl
set_option maxRecDepth 100000 in
set_option maxHeartbeats 2000000 in
theorem awake48 (w:World) :
 Calls Tryz.prog 6 #[] w fun e w'=>e=.returned (.bool true)∧Below w.heap.size w w':=by
 have hb0:Below w.heap.size w (w.alloc (.cells awC 63)):=(Below.refl _ w).alloc (Nat.le_refl _) _
 have HB0:=Lib.hid hb0
 have HF:=Lib.hid (listSm_any (awL_in w) (fun y hy=>by simp only[awL,List.mem_cons,List.not_mem_nil,or_false] at hy;rcases hy with rfl|rfl|rfl <;> exact⟨rfl,rfl⟩) (by decide))
 rw[awL_shr] at HF
 unfold awC at HF HB0
 simp only[awL,awS,smFlat,smCells,List.flatMap_cons,List.flatMap_nil,List.cons_append,List.nil_append,List.append_nil] at HF HB0
 clear hb0
 go_enter Tryz.func6,Tryz.ntmps6
 go_wp2_with fail
 refine HF.out.mono ?_
 rintro e w1 ⟨v1,rfl,hi,hb1⟩
 have HB1:=Lib.hid (HB0.out.trans (hb1.mono HB0.out.size))
 obtain⟨g,off,cap,hv,hgl,a0,a1,-⟩:=hi.at (k:=0) rfl
 simp only[List.length_cons,List.length_nil] at hv
 subst hv
 clear hb1 hi
 go_wp2
 go_ret
 exact⟨rfl,HB1.out⟩
end Go.Proofs.YtadjnfpomjopkaaGreat
