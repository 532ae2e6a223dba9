/- A part of a proof: 'warder/warderlaw07.DeclOnes' returns true for every input and leaves its arguments as they were; no condition. The row lists package-level variables of Go's library with what they hold at the start; the card ties them to the program's text. -/
import Derived.Test.YthlofmnmacpogaaGreatDoorOn28
import Derived.Test.YthlofmnmacpogaaGreatDoorOn04
namespace Go.Proofs.YthlofmnmacpogaaGreatDoor
open Go.RowKit
theorem run_append_none {P:Program} {w:World} {base:Nat} (t ty e:TypeId) (i:TypeInfo) (size cap0:Nat) (ht:P.underlying t=some (.slice e)) (hi:P.info? e=some i)
 (v:Value) (n:Nat) (xs:List Value) (hown:w.ownsRow base e size v n xs) :
 (Builtin.append_ #[t,t] ty #[v,.slice none 0 cap0]).run P w=.ok v w:=by
 rcases hown.2 with⟨rfl,rfl⟩ | ⟨g,cap,cur,rfl,_,_,hnc,_⟩
 · simp[Builtin.append_,run_underlying ht,sizeOf,typeInfo,hi,Builtin.lenOf,Builtin.firstCells]
 · simp[Builtin.append_,run_underlying ht,sizeOf,typeInfo,hi,Builtin.lenOf,Builtin.firstCells,hnc,storeCells]
theorem step_append_none {P:Program} (w:World) {ops:Array Oper} {o:Oper} {a:Act} {K:Act→World→Prop} {Q:Exit→Act→World→Prop} {E:Prop} (hgd:o.guard=none) (s x:Operand) (t:TypeId)
 (ho:o.op=.call { callee:=.builtin .append,args:=#[s,x],argTypes:=#[t,t] })
 (base:Nat) (e:TypeId) (i:TypeInfo) (size:Nat) (ht:P.underlying t=some (.slice e)) (hi:P.info? e=some i)
 (v:Value) (n:Nat) (xs:List Value) (hs:a.eval s=v) (hown:w.ownsRow base e size v n xs) (c:Nat) (hx:a.eval x=.slice none 0 c) (h:K (a.put o.dst v) w) :
 if Region.wanted o (yielded ops a.tmps)=true then Oper.wp P o a w K Q else E:=by
 have hw:Region.wanted o (yielded ops a.tmps)=true:=by simp[Region.wanted,hgd]
 rw[if_pos hw]
 have hr:=run_append_none (P:=P) (w:=w) (base:=base) t o.type e i size c ht hi v n xs hown
 unfold Oper.wp execOp
 simp only[ho,resolve,invoke,builtin,Sem.run_bind,Sem.run_pure,Result.andThen_ok,List.map_toArray,List.map_cons,List.map_nil,hs,hx,hr]
 exact h
set_option maxRecDepth 100000 in
set_option maxHeartbeats 4000000 in
theorem also_nil {w:World} {b2 g2 cap2 n2:Nat} {o2:List It} (h2:w.ownsRow b2 87 9 (.slice (some ⟨g2,0,none⟩) n2 cap2) n2 (itFlat o2)) (hn2:0 < n2) (hl2:n2≤1000000)
 (a1 e1 l1 c1 a2 e2 l2 c2:Int) (x:It) :
 Calls Tryz.prog 107 #[.agg #[.slice none 0 0,.int .i64 a1,.int .i64 e1,.int .i64 l1,.int .i64 c1],.agg #[.slice (some ⟨g2,0,none⟩) n2 cap2,.int .i64 a2,.int .i64 e2,.int .i64 l2,.int .i64 c2],.agg #[.int .i64 x.op,.string x.ln,.int .i64 x.lnum,.string x.rn,.int .i64 x.rnum,.string x.name,.string x.user,.int .i64 x.line,.int .i64 x.col]] w fun e w'=>∃ g cap,e=.returned (.agg #[.slice (some ⟨g,0,none⟩) (n2+1) cap,.int .i64 a2,.int .i64 0,.int .i64 0,.int .i64 0])∧
  w'.ownsRow w.heap.size 87 9 (.slice (some ⟨g,0,none⟩) (n2+1) cap) (n2+1) (itFlat (o2 ++ [x]))∧Below w.heap.size w w':=by
 have hb4:Below w.heap.size w ((((w.alloc (.cells #[.slice none 0 0,.int .i64 a1,.int .i64 e1,.int .i64 l1,.int .i64 c1] 117)).alloc (.cells #[.slice (some ⟨g2,0,none⟩) n2 cap2,.int .i64 a2,.int .i64 e2,.int .i64 l2,.int .i64 c2] 117)).alloc (.cells #[.int .i64 x.op,.string x.ln,.int .i64 x.lnum,.string x.rn,.int .i64 x.rnum,.string x.name,.string x.user,.int .i64 x.line,.int .i64 x.col] 87)).alloc (.cells #[.slice none 0 0,.int .i64 0,.int .i64 0,.int .i64 0,.int .i64 0] 117)):=by
  exact((((Below.refl _ w).alloc (Nat.le_refl _) _).alloc (by simp) _).alloc (by simp;omega) _).alloc (by simp;omega) _
 have q0:PrB ((((w.alloc (.cells #[.slice none 0 0,.int .i64 a1,.int .i64 e1,.int .i64 l1,.int .i64 c1] 117)).alloc (.cells #[.slice (some ⟨g2,0,none⟩) n2 cap2,.int .i64 a2,.int .i64 e2,.int .i64 l2,.int .i64 c2] 117)).alloc (.cells #[.int .i64 x.op,.string x.ln,.int .i64 x.lnum,.string x.rn,.int .i64 x.rnum,.string x.name,.string x.user,.int .i64 x.line,.int .i64 x.col] 87)).alloc (.cells #[.slice none 0 0,.int .i64 0,.int .i64 0,.int .i64 0,.int .i64 0] 117)) w.heap.size (.slice none 0 0) a1 e1 l1 c1:=(((PrB.alloc (heap_alloc_new w _) _).alloc _).alloc _)
 have q1:PrB ((((w.alloc (.cells #[.slice none 0 0,.int .i64 a1,.int .i64 e1,.int .i64 l1,.int .i64 c1] 117)).alloc (.cells #[.slice (some ⟨g2,0,none⟩) n2 cap2,.int .i64 a2,.int .i64 e2,.int .i64 l2,.int .i64 c2] 117)).alloc (.cells #[.int .i64 x.op,.string x.ln,.int .i64 x.lnum,.string x.rn,.int .i64 x.rnum,.string x.name,.string x.user,.int .i64 x.line,.int .i64 x.col] 87)).alloc (.cells #[.slice none 0 0,.int .i64 0,.int .i64 0,.int .i64 0,.int .i64 0] 117)) (w.heap.size+1) (.slice (some ⟨g2,0,none⟩) n2 cap2) a2 e2 l2 c2:=((PrB.alloc (heap_at_size _ _ _ (by simp)) _).alloc _)
 have q2:ItB ((((w.alloc (.cells #[.slice none 0 0,.int .i64 a1,.int .i64 e1,.int .i64 l1,.int .i64 c1] 117)).alloc (.cells #[.slice (some ⟨g2,0,none⟩) n2 cap2,.int .i64 a2,.int .i64 e2,.int .i64 l2,.int .i64 c2] 117)).alloc (.cells #[.int .i64 x.op,.string x.ln,.int .i64 x.lnum,.string x.rn,.int .i64 x.rnum,.string x.name,.string x.user,.int .i64 x.line,.int .i64 x.col] 87)).alloc (.cells #[.slice none 0 0,.int .i64 0,.int .i64 0,.int .i64 0,.int .i64 0] 117)) (w.heap.size+2) x:=ItB.alloc (heap_at_size _ _ _ (by simp)) _
 have q3:PrB ((((w.alloc (.cells #[.slice none 0 0,.int .i64 a1,.int .i64 e1,.int .i64 l1,.int .i64 c1] 117)).alloc (.cells #[.slice (some ⟨g2,0,none⟩) n2 cap2,.int .i64 a2,.int .i64 e2,.int .i64 l2,.int .i64 c2] 117)).alloc (.cells #[.int .i64 x.op,.string x.ln,.int .i64 x.lnum,.string x.rn,.int .i64 x.rnum,.string x.name,.string x.user,.int .i64 x.line,.int .i64 x.col] 87)).alloc (.cells #[.slice none 0 0,.int .i64 0,.int .i64 0,.int .i64 0,.int .i64 0] 117)) (w.heap.size+3) (.slice none 0 0) 0 0 0 0:=heap_at_size _ _ _ (by simp)
 have hs4: ((((w.alloc (.cells #[.slice none 0 0,.int .i64 a1,.int .i64 e1,.int .i64 l1,.int .i64 c1] 117)).alloc (.cells #[.slice (some ⟨g2,0,none⟩) n2 cap2,.int .i64 a2,.int .i64 e2,.int .i64 l2,.int .i64 c2] 117)).alloc (.cells #[.int .i64 x.op,.string x.ln,.int .i64 x.lnum,.string x.rn,.int .i64 x.rnum,.string x.name,.string x.user,.int .i64 x.line,.int .i64 x.col] 87)).alloc (.cells #[.slice none 0 0,.int .i64 0,.int .i64 0,.int .i64 0,.int .i64 0] 117)).heap.size=w.heap.size+4:=by simp
 have H2:=Lib.hid h2
 have hx2: (itFlat o2).length=n2 * 9:=h2.1
 have hg2:g2 < w.heap.size:=by have:=(h2.lt g2 rfl).2;omega
 have HX2:=Lib.hid hx2
 have HB4:=Lib.hid hb4;have Q0:=Lib.hid q0;have Q1:=Lib.hid q1;have Q2:=Lib.hid q2;have Q3:=Lib.hid q3;have HS4:=Lib.hid hs4
 obtain⟨i0,hi0,hz0,hz1,hz2⟩:=info_parts info_item
 have HIP:=Lib.hid (And.intro hi0 (And.intro hz0 (And.intro hz1 hz2)))
 clear h2 hx2 hb4 q0 q1 q2 q3 hs4 hi0 hz0 hz1 hz2
 go_enter Tryz.func107,Tryz.ntmps107
 go_wp2
 obtain⟨W4,hW4⟩:∃ W,((((w.alloc (.cells #[.slice none 0 0,.int .i64 a1,.int .i64 e1,.int .i64 l1,.int .i64 c1] 117)).alloc (.cells #[.slice (some ⟨g2,0,none⟩) n2 cap2,.int .i64 a2,.int .i64 e2,.int .i64 l2,.int .i64 c2] 117)).alloc (.cells #[.int .i64 x.op,.string x.ln,.int .i64 x.lnum,.string x.rn,.int .i64 x.rnum,.string x.name,.string x.user,.int .i64 x.line,.int .i64 x.col] 87)).alloc (.cells #[.slice none 0 0,.int .i64 0,.int .i64 0,.int .i64 0,.int .i64 0] 117))=W:=⟨_,rfl⟩
 rw[hW4] at HB4 Q0 Q1 Q2 Q3 HS4 ⊢
 clear hW4
 obtain⟨s0,_,_,_,_⟩:=Q0.out.facts
 obtain⟨s1,s2,_,_,_⟩:=Q1.out.facts
 have hB5:Hid (Below w.heap.size w (W4.alloc (.cells #[] 87)).drew):=(HB4.out.alloc HB4.out.size _).drew
 have hS5:Hid ((W4.alloc (.cells #[] 87)).drew.heap.size=W4.heap.size+1):=by unfold Hid;show(W4.alloc _).heap.size=_;rw[World.size_alloc]
 have hs4a:w.heap.size+4≤W4.heap.size:=by have:=HS4.out;omega
 have OWN0:Hid ((W4.alloc (.cells #[] 87)).drew.ownsRow w.heap.size 87 9 (.slice (some ⟨W4.heap.size,0,none⟩) 0 0) 0 []):=by
  have:=World.ownsRow_lit (e:=87) (size:=9) W4 #[] 0 (Nat.le_refl _) (Nat.zero_le _) (by simp)
  exact owns_mono this.drew (by have:=HS4.out;omega)
 first
 | (go_region_held3 (fun w'=>w'.cell? ⟨w.heap.size,0,none⟩ = some (.slice none 0 0)∧w'.cell? ⟨w.heap.size+1,0,none⟩ = some (.slice (some ⟨g2,0,none⟩) n2 cap2))
     (first|go_keep| (refine⟨?_,?_⟩ <;> (first|assumption|go_keep)))
     (first
       | (refine step_append_none _ (by rfl) _ _ _ (by rfl) w.heap.size 87 i0 9 Tryz.underlying35 HIP.out.1 (.slice (some ⟨W4.heap.size,0,none⟩) 0 0) 0 [] (by rfl) OWN0.out 0 (by rfl) ?_)
       | (refine step_append_lies _ (by rfl) _ _ _ (by rfl) w.heap.size 87 i0 _ 9 104 Tryz.underlying35 HIP.out.1 HIP.out.2.1 HIP.out.2.2.1 HIP.out.2.2.2 rfl (by omega) (.slice (some ⟨W4.heap.size,0,none⟩) 0 0) 0 [] (by rfl) OWN0.out ⟨g2,0,none⟩ n2 cap2 (itFlat o2) (by rfl) HX2.out (row_news H2.out hB5.out) (it_one o2) hn2 (by unfold maxLen;omega) (by omega) (by rw[hS5.out];omega) (W4.heap.size+1) hS5.out ?_
          intro g4 cap4 w6 hown4 hgrow4 hat4 hlt4
          have hb6:Below w.heap.size w w6:=hB5.out.trans (below_of_grown hgrow4 (fun k e=>(OWN0.out.lt k e).1) (by rw[hS5.out];omega))
          have k0':=(Q0.out.alloc (.cells #[] 87)).drew.grown hgrow4 (by simp[Value.ownBlock];omega)
          obtain⟨s3,_,_,_,_⟩:=k0'.facts
          have hgs4:w.heap.size+4≤g4:=by rcases hat4 with e|e;(simp[Value.ownBlock] at e;omega);omega
          have k1:=(Q1.out.alloc _).drew.grown hgrow4 (by simp[Value.ownBlock];omega)
          have k2:=(Q2.out.alloc _).drew.grown hgrow4 (by simp[Value.ownBlock];omega)
          have k3:=(Q3.out.alloc _).drew.grown hgrow4 (by simp[Value.ownBlock];omega)
          obtain⟨s6,s7,_,_,_⟩:=k1.facts
          have HO4:=Lib.hid hown4;have HB6:=Lib.hid hb6;have L1:=Lib.hid k1;have L2:=Lib.hid k2;have L3:=Lib.hid k3
          clear hown4 hgrow4 hat4 hb6 k0' k1 k2 k3)))
 | fail
 all_goals
  obtain⟨r0,r1,r2,r3,r4,r5,r6,r7,r8⟩:=L2.out.facts
  obtain⟨r9,r10,r11,r12,r13⟩:=L3.out.facts
  obtain⟨y9,y10,y11,y12,y13⟩:=L3.out.free
  have hB7:Hid (Below w.heap.size w (w6.alloc (.cells #[.int .i64 x.op,.string x.ln,.int .i64 x.lnum,.string x.rn,.int .i64 x.rnum,.string x.name,.string x.user,.int .i64 x.line,.int .i64 x.col] 87)).drew):=(HB6.out.alloc HB6.out.size _).drew
  have hS7:Hid ((w6.alloc (.cells #[.int .i64 x.op,.string x.ln,.int .i64 x.lnum,.string x.rn,.int .i64 x.rnum,.string x.name,.string x.user,.int .i64 x.line,.int .i64 x.col] 87)).drew.heap.size=w6.heap.size+1):=by unfold Hid;show(w6.alloc _).heap.size=_;rw[World.size_alloc]
  have OWN4:Hid ((w6.alloc (.cells #[.int .i64 x.op,.string x.ln,.int .i64 x.lnum,.string x.rn,.int .i64 x.rnum,.string x.name,.string x.user,.int .i64 x.line,.int .i64 x.col] 87)).drew.ownsRow w.heap.size 87 9 (.slice (some ⟨g4,0,none⟩) (n2) cap4) (n2) ([] ++itFlat o2)):=by
   have:=HO4.out
   rw[Nat.zero_add] at this
   exact(this.alloc _).drew
  have hsz6:=HB6.out.size
  go_wp2
  first
  | (go_region_held3 (fun w'=>w'.cell? ⟨w.heap.size+2,0,none⟩ = some (.int .i64 x.op)∧w'.cell? ⟨w.heap.size+2,1,none⟩ = some (.string x.ln)∧w'.cell? ⟨w.heap.size+2,2,none⟩ = some (.int .i64 x.lnum)∧w'.cell? ⟨w.heap.size+2,3,none⟩ = some (.string x.rn)∧w'.cell? ⟨w.heap.size+2,4,none⟩ = some (.int .i64 x.rnum)∧w'.cell? ⟨w.heap.size+2,5,none⟩ = some (.string x.name)∧w'.cell? ⟨w.heap.size+2,6,none⟩ = some (.string x.user)∧w'.cell? ⟨w.heap.size+2,7,none⟩ = some (.int .i64 x.line)∧w'.cell? ⟨w.heap.size+2,8,none⟩ = some (.int .i64 x.col)∧w'.cell? ⟨w.heap.size+1,1,none⟩ = some (.int .i64 a2))
      (first| (with_reducible exact⟨t2,t3,t4,t5,t6,t7,t8,t9,t10,t1⟩)|go_keep)
      (first
        | (refine step_append_lies _ (by rfl) _ _ _ (by rfl) w.heap.size 87 i0 _ 9 104 Tryz.underlying35 HIP.out.1 HIP.out.2.1 HIP.out.2.2.1 HIP.out.2.2.2 rfl (by omega) (.slice (some ⟨g4,0,none⟩) (n2) cap4) (n2) ([] ++itFlat o2) (by rfl) OWN4.out ⟨w6.heap.size,0,none⟩ 1 1 [.int .i64 x.op,.string x.ln,.int .i64 x.lnum,.string x.rn,.int .i64 x.rnum,.string x.name,.string x.user,.int .i64 x.line,.int .i64 x.col] (by rfl) (by rfl) (World.news_of_block (cs:=#[.int .i64 x.op,.string x.ln,.int .i64 x.lnum,.string x.rn,.int .i64 x.rnum,.string x.name,.string x.user,.int .i64 x.line,.int .i64 x.col]) (t:=87) (fr:=(0,0)) (heap_alloc_new w6 _)) (by simp[Value.oneCell']) (by omega) (by unfold maxLen;omega) (by omega) (by rw[hS7.out];omega) (w6.heap.size+1) hS7.out ?_
           intro g5 cap5 w8 hown5 hgrow5 hat5 hlt5
           have hb8:Below w.heap.size w w8:=hB7.out.trans (below_of_grown hgrow5 (fun k e=>(OWN4.out.lt k e).1) (by rw[hS7.out];omega))
           have m1:=(L1.out.alloc _).drew.grown hgrow5 (by simp[Value.ownBlock];omega)
           have m2:=(L2.out.alloc _).drew.grown hgrow5 (by simp[Value.ownBlock];omega)
           have m3:=(L3.out.alloc _).drew.grown hgrow5 (by simp[Value.ownBlock];omega)
           obtain⟨_,p1,_,_,_⟩:=m1.facts
           obtain⟨p2,p3,p4,p5,p6,p7,p8,p9,p10⟩:=m2.facts
           obtain⟨p11,p12,p13,p14,p15⟩:=m3.facts
           obtain⟨p16,p17,p18,p19,p20⟩:=m3.free
           have tk:=fun(g j:Nat) (v:Value) (hg:g≠w.heap.size+3) (h:w8.cell? ⟨g,j,none⟩ = some v)=>cell_tok (k:=w.heap.size+3) (.slice (some ⟨g5,0,none⟩) (n2+1) cap5) (.int .i64 a2) (.int .i64 0) (.int .i64 0) (.int .i64 0) hg h
           have t1:=tk _ _ _ (by omega) p1;have t2:=tk _ _ _ (by omega) p2;have t3:=tk _ _ _ (by omega) p3;have t4:=tk _ _ _ (by omega) p4;have t5:=tk _ _ _ (by omega) p5;have t6:=tk _ _ _ (by omega) p6;have t7:=tk _ _ _ (by omega) p7;have t8:=tk _ _ _ (by omega) p8;have t9:=tk _ _ _ (by omega) p9;have t10:=tk _ _ _ (by omega) p10
           clear tk
           have HO5:=Lib.hid hown5;have HB8:=Lib.hid hb8;have M3:=Lib.hid m3
           clear hown5 hgrow5 hat5 hb8 m1 m2 m3)))
  | fail
  all_goals
   have hE:=Lib.hid (M3.out.stored (.slice (some ⟨g5,0,none⟩) (n2+1) cap5) a2 0 0 0).facts
   have hROW:=Lib.hid (PrB.row M3.out HO5.out (by decide) (.slice (some ⟨g5,0,none⟩) (n2+1) cap5) a2 0 0 0)
   have hBEL:=Lib.hid (below_tok HB8.out (show w.heap.size≤w.heap.size+3 by omega) (.slice (some ⟨g5,0,none⟩) (n2+1) cap5) (.int .i64 a2) (.int .i64 0) (.int .i64 0) (.int .i64 0))
   go_wp2
   obtain⟨e0,e1,e2,e3,e4⟩:=hE.out
   refine bodyPost_ret (v:=.agg #[.slice (some ⟨g5,0,none⟩) (n2+1) cap5,.int .i64 a2,.int .i64 0,.int .i64 0,.int .i64 0]) (by simp[results,Tryz.results107,go_sem,e0,e1,e2,e3,e4]) rfl ⟨g5,cap5,rfl,?_,hBEL.out⟩
   have hfl:itFlat (o2 ++ [x])= [] ++itFlat o2 ++ [.int .i64 x.op,.string x.ln,.int .i64 x.lnum,.string x.rn,.int .i64 x.rnum,.string x.name,.string x.user,.int .i64 x.line,.int .i64 x.col]:=by simp[itFlat,itCells]
   rw[hfl]
   exact hROW.out
end Go.Proofs.YthlofmnmacpogaaGreatDoor
namespace Go.Proofs.YthlofmnmacpogaaGreatDoor
open Go.RowKit
def Full (one:Int→PR):Prop:=∀ i o a,one i=.ok o a→0 < o.length
theorem rowP_full {T:List Tk} {one:Int→PR} (wd:ByteArray) (op:Int):∀ (k:Nat) (i:Int) (out:List It) (o:List It) (a:Int),0 < out.length→rowP T one wd op k i out=.ok o a→0 < o.length
 | 0,i,out,o,a,h0,he=>by
   simp only[rowP,PR.ok.injEq] at he
   obtain⟨rfl,rfl⟩:=he
   exact h0
 | k+1,i,out,o,a,h0,he=>by
   rw[rowP] at he
   split at he
   · obtain⟨o1,a1,he1,he2⟩:=also_ok he
     exact rowP_full wd op k _ _ _ _ (by simp only[List.length_append,List.length_cons,List.length_nil];omega) he2
   · simp only[PR.ok.injEq] at he
     obtain⟨rfl,rfl⟩:=he
     exact h0
theorem rowsP_full {T:List Tk} {one:Int→PR} (h:Full one) (wd:ByteArray) (op:Int):Full (rowsP T one wd op):=by
 intro i o a he
 obtain⟨o1,a1,he1,he2⟩:=also_ok he
 exact rowP_full wd op _ _ _ _ _ (h _ _ _ he1) he2
theorem compP_full (T:List Tk):Full (compP T):=by
 intro i o a he
 unfold compP at he
 split at he
 · split at he
   · cases he
   · split at he
     · simp only[PR.ok.injEq] at he;obtain⟨rfl,rfl⟩:=he;simp
     · cases he
 · cases he
theorem namedP_full (T:List Tk) (i:Int) (op:Int) (o:List It) (a:Int) (he:namedP T i op=.ok o a):0 < o.length:=by
 unfold namedP at he
 split at he
 · simp only[PR.ok.injEq] at he;obtain⟨rfl,rfl⟩:=he;simp
 · cases he
theorem didP_full (T:List Tk) (i:Int) (o:List It) (a:Int) (he:didP T i=.ok o a):0 < o.length:=by
 unfold didP at he
 split at he
 · split at he
   · simp only[PR.ok.injEq] at he;obtain⟨rfl,rfl⟩:=he;simp
   · cases he
 · cases he
theorem one_full {x:It} {o:List It} {i a:Int} (he:PR.ok [x] i=.ok o a):0 < o.length:=by
 simp only[PR.ok.injEq] at he;obtain⟨rfl,rfl⟩:=he;simp
theorem atomP_full (T:List Tk) (prop:Bool) (i:Int) (o:List It) (a:Int) (he:atomP T prop i=.ok o a):0 < o.length:=by
 unfold atomP at he
 split at he
 · exact namedP_full _ _ _ _ _ he
 split at he
 · exact namedP_full _ _ _ _ _ he
 split at he
 · exact one_full he
 split at he
 · exact one_full he
 split at he
 · cases he
 split at he
 · exact namedP_full _ _ _ _ _ he
 split at he
 · exact didP_full _ _ _ _ he
 split at he
 · exact one_full he
 split at he
 · exact one_full he
 · cases he
theorem untilP_full {T:List Tk} {form:Int→PR} (op i:Int) (o:List It) (a:Int) (he:untilP T form op i=.ok o a):0 < o.length:=by
 unfold untilP at he
 obtain⟨h1,he⟩:=need_ok he
 obtain⟨o1,b,hf,he⟩:=also_ok he
 obtain⟨h2,he⟩:=need_ok he
 obtain⟨o2,d,hf2,he⟩:=also_ok he
 obtain⟨h3,he⟩:=need_ok he
 simp only[PR.ok.injEq] at he
 obtain⟨rfl,rfl⟩:=he
 simp only[List.length_append,List.length_cons,List.length_nil];omega
theorem signP_full {T:List Tk} {prop:Bool} {sg form:Int→PR} (hf:Full form):Full (signP T prop sg form):=by
 intro i o a he
 unfold signP at he
 split at he
 · obtain⟨o1,b,h2,he⟩:=also_ok he
   obtain⟨h3,he⟩:=need_ok he
   simp only[PR.ok.injEq] at he
   obtain⟨rfl,rfl⟩:=he
   exact hf _ _ _ h2
 split at he
 · exact compP_full T i o a he
 split at he
 · obtain⟨o1,b,h2,he⟩:=also_ok he
   simp only[PR.ok.injEq] at he
   obtain⟨rfl,rfl⟩:=he
   simp only[List.length_append,List.length_cons,List.length_nil];omega
 split at he
 · cases he
 split at he
 · exact untilP_full _ _ _ _ he
 split at he
 · exact untilP_full _ _ _ _ he
 split at he
 · exact atomP_full T prop i o a he
 · obtain⟨o1,b,h2,he⟩:=also_ok he
   simp only[PR.ok.injEq] at he
   obtain⟨rfl,rfl⟩:=he
   simp only[List.length_append,List.length_cons,List.length_nil];omega
theorem formP_full {T:List Tk} {sg form:Int→PR} (hs:Full sg):Full (formP T sg form):=by
 intro i o a he
 unfold formP at he
 obtain⟨o1,b,h1,he⟩:=also_ok he
 split at he
 · obtain⟨o2,c,h2,he⟩:=also_ok he
   simp only[PR.ok.injEq] at he
   obtain⟨rfl,rfl⟩:=he
   simp only[List.length_append,List.length_cons,List.length_nil];omega
 · simp only[PR.ok.injEq] at he
   obtain⟨rfl,rfl⟩:=he
   exact rowsP_full (rowsP_full hs wAnd 16) wOr 17 _ _ _ h1
theorem both_full (T:List Tk) (prop:Bool):∀ n,Full (bothP T prop n).1∧Full (bothP T prop n).2
 | 0=>⟨fun i o a h=>(by have h:badP T i 5=.ok o a:=h;cases h),fun i o a h=>(by have h:badP T i 5=.ok o a:=h;cases h)⟩
 | n+1=>by
   have ih:=both_full T prop n
   have hs:=signP_full (T:=T) (prop:=prop) (sg:=(bothP T prop n).1) ih.2
   exact⟨hs,formP_full hs⟩
end Go.Proofs.YthlofmnmacpogaaGreatDoor
