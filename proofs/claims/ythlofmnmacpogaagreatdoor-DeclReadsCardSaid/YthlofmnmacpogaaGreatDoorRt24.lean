/- A part of a proof of DeclReadsProof. -/
import Derived.Test.YthlofmnmacpogaaGreatDoorRt22
set_option maxRecDepth 100000
set_option maxHeartbeats 40000000
namespace Go.Proofs.YthlofmnmacpogaaGreatDoor
open Go.RowKit
theorem run_append_none {P:Program} {w:World} {base:Nat} (t ty e:TypeId) (i:TypeInfo) (size cap0:Nat) (ht:P.underlying t=some (.slice e)) (hi:P.info? e=some i)
 (v:Value) (n:Nat) (xs:List Value) (hown:w.ownsRow base e size v n xs) :
 (Builtin.append_ #[t,t] ty #[v,.slice none 0 cap0]).run P w=.ok v w:=by
 rcases hown.2 with⟨rfl,rfl⟩ | ⟨g,cap,cur,rfl,_,_,hnc,_⟩
 · simp[Builtin.append_,run_underlying ht,sizeOf,typeInfo,hi,Builtin.lenOf,Builtin.firstCells]
 · simp[Builtin.append_,run_underlying ht,sizeOf,typeInfo,hi,Builtin.lenOf,Builtin.firstCells,hnc,storeCells]
theorem step_append_none {P:Program} (w:World) {ops:Array Oper} {o:Oper} {a:Act} {K:Act→World→Prop} {Q:Exit→Act→World→Prop} {E:Prop} (hgd:o.guard=none) (s x:Operand) (t:TypeId)
 (ho:o.op=.call { callee:=.builtin .append,args:=#[s,x],argTypes:=#[t,t] })
 (base:Nat) (e:TypeId) (i:TypeInfo) (size:Nat) (ht:P.underlying t=some (.slice e)) (hi:P.info? e=some i)
 (v:Value) (n:Nat) (xs:List Value) (hs:a.eval s=v) (hown:w.ownsRow base e size v n xs) (c:Nat) (hx:a.eval x=.slice none 0 c) (h:K (a.put o.dst v) w) :
 if Region.wanted o (yielded ops a.tmps)=true then Oper.wp P o a w K Q else E:=by
 have hw:Region.wanted o (yielded ops a.tmps)=true:=by simp[Region.wanted,hgd]
 rw[if_pos hw]
 have hr:=run_append_none (P:=P) (w:=w) (base:=base) t o.type e i size c ht hi v n xs hown
 unfold Oper.wp execOp
 simp only[ho,resolve,invoke,builtin,Sem.run_bind,Sem.run_pure,Result.andThen_ok,List.map_toArray,List.map_cons,List.map_nil,hs,hx,hr]
 exact h
theorem also_nil {w:World} {b2 g2 cap2 n2:Nat} {o2:List It} (h2:w.ownsRow b2 87 9 (.slice (some ⟨g2,0,none⟩) n2 cap2) n2 (itFlat o2)) (hn2:0 < n2) (hl2:n2≤1000000)
 (a1 e1 l1 c1 a2 e2 l2 c2:Int) (x:It) :
 Calls Tryz.prog 107 #[.agg #[.slice none 0 0,.int .i64 a1,.int .i64 e1,.int .i64 l1,.int .i64 c1],.agg #[.slice (some ⟨g2,0,none⟩) n2 cap2,.int .i64 a2,.int .i64 e2,.int .i64 l2,.int .i64 c2],.agg #[.int .i64 x.op,.string x.ln,.int .i64 x.lnum,.string x.rn,.int .i64 x.rnum,.string x.name,.string x.user,.int .i64 x.line,.int .i64 x.col]] w fun e w'=>∃ g cap,e=.returned (.agg #[.slice (some ⟨g,0,none⟩) (n2+1) cap,.int .i64 a2,.int .i64 0,.int .i64 0,.int .i64 0])∧
  w'.ownsRow w.heap.size 87 9 (.slice (some ⟨g,0,none⟩) (n2+1) cap) (n2+1) (itFlat (o2 ++ [x]))∧Below w.heap.size w w':=by
 have hb4:Below w.heap.size w ((((w.alloc (.cells #[.slice none 0 0,.int .i64 a1,.int .i64 e1,.int .i64 l1,.int .i64 c1] 117)).alloc (.cells #[.slice (some ⟨g2,0,none⟩) n2 cap2,.int .i64 a2,.int .i64 e2,.int .i64 l2,.int .i64 c2] 117)).alloc (.cells #[.int .i64 x.op,.string x.ln,.int .i64 x.lnum,.string x.rn,.int .i64 x.rnum,.string x.name,.string x.user,.int .i64 x.line,.int .i64 x.col] 87)).alloc oB6):=by
  exact((((Below.refl _ w).alloc (Nat.le_refl _) _).alloc (by simp) _).alloc (by simp;omega) _).alloc (by simp;omega) _
 have q0:PrB ((((w.alloc (.cells #[.slice none 0 0,.int .i64 a1,.int .i64 e1,.int .i64 l1,.int .i64 c1] 117)).alloc (.cells #[.slice (some ⟨g2,0,none⟩) n2 cap2,.int .i64 a2,.int .i64 e2,.int .i64 l2,.int .i64 c2] 117)).alloc (.cells #[.int .i64 x.op,.string x.ln,.int .i64 x.lnum,.string x.rn,.int .i64 x.rnum,.string x.name,.string x.user,.int .i64 x.line,.int .i64 x.col] 87)).alloc oB6) w.heap.size (.slice none 0 0) a1 e1 l1 c1:=(((PrB.alloc (heap_alloc_new w _) _).alloc _).alloc _)
 have q1:PrB ((((w.alloc (.cells #[.slice none 0 0,.int .i64 a1,.int .i64 e1,.int .i64 l1,.int .i64 c1] 117)).alloc (.cells #[.slice (some ⟨g2,0,none⟩) n2 cap2,.int .i64 a2,.int .i64 e2,.int .i64 l2,.int .i64 c2] 117)).alloc (.cells #[.int .i64 x.op,.string x.ln,.int .i64 x.lnum,.string x.rn,.int .i64 x.rnum,.string x.name,.string x.user,.int .i64 x.line,.int .i64 x.col] 87)).alloc oB6) (w.heap.size+1) (.slice (some ⟨g2,0,none⟩) n2 cap2) a2 e2 l2 c2:=((PrB.alloc (heap_at_size _ _ _ (by simp)) _).alloc _)
 have q2:ItB ((((w.alloc (.cells #[.slice none 0 0,.int .i64 a1,.int .i64 e1,.int .i64 l1,.int .i64 c1] 117)).alloc (.cells #[.slice (some ⟨g2,0,none⟩) n2 cap2,.int .i64 a2,.int .i64 e2,.int .i64 l2,.int .i64 c2] 117)).alloc (.cells #[.int .i64 x.op,.string x.ln,.int .i64 x.lnum,.string x.rn,.int .i64 x.rnum,.string x.name,.string x.user,.int .i64 x.line,.int .i64 x.col] 87)).alloc oB6) (w.heap.size+2) x:=ItB.alloc (heap_at_size _ _ _ (by simp)) _
 have q3:PrB ((((w.alloc (.cells #[.slice none 0 0,.int .i64 a1,.int .i64 e1,.int .i64 l1,.int .i64 c1] 117)).alloc (.cells #[.slice (some ⟨g2,0,none⟩) n2 cap2,.int .i64 a2,.int .i64 e2,.int .i64 l2,.int .i64 c2] 117)).alloc (.cells #[.int .i64 x.op,.string x.ln,.int .i64 x.lnum,.string x.rn,.int .i64 x.rnum,.string x.name,.string x.user,.int .i64 x.line,.int .i64 x.col] 87)).alloc oB6) (w.heap.size+3) (.slice none 0 0) 0 0 0 0:=heap_at_size _ _ _ (by simp)
 have hs4: ((((w.alloc (.cells #[.slice none 0 0,.int .i64 a1,.int .i64 e1,.int .i64 l1,.int .i64 c1] 117)).alloc (.cells #[.slice (some ⟨g2,0,none⟩) n2 cap2,.int .i64 a2,.int .i64 e2,.int .i64 l2,.int .i64 c2] 117)).alloc (.cells #[.int .i64 x.op,.string x.ln,.int .i64 x.lnum,.string x.rn,.int .i64 x.rnum,.string x.name,.string x.user,.int .i64 x.line,.int .i64 x.col] 87)).alloc oB6).heap.size=w.heap.size+4:=by simp
 have H2:=Lh h2
 have hx2: (itFlat o2).length=n2 * 9:=h2.1
 have hg2:g2 < w.heap.size:=by have:=(h2.lt g2 rfl).2;omega
 have HX2:=Lh hx2
 have HB4:=Lh hb4;have Q0:=Lh q0;have Q1:=Lh q1;have Q2:=Lh q2;have Q3:=Lh q3;have HS4:=Lh hs4
 obtain⟨i0,hi0,hz0,hz1,hz2⟩:=info_parts info_item
 have HIP:=Lh (And.intro hi0 (And.intro hz0 (And.intro hz1 hz2)))
 clear h2 hx2 hb4 q0 q1 q2 q3 hs4 hi0 hz0 hz1 hz2
 go_enter Tryz.func107,Tryz.ntmps107
 go_wp2
 obtain⟨W4,hW4⟩:∃ W,((((w.alloc (.cells #[.slice none 0 0,.int .i64 a1,.int .i64 e1,.int .i64 l1,.int .i64 c1] 117)).alloc (.cells #[.slice (some ⟨g2,0,none⟩) n2 cap2,.int .i64 a2,.int .i64 e2,.int .i64 l2,.int .i64 c2] 117)).alloc (.cells #[.int .i64 x.op,.string x.ln,.int .i64 x.lnum,.string x.rn,.int .i64 x.rnum,.string x.name,.string x.user,.int .i64 x.line,.int .i64 x.col] 87)).alloc oB6)=W:=⟨_,rfl⟩
 rw[hW4] at HB4 Q0 Q1 Q2 Q3 HS4 ⊢
 clear hW4
 obtain⟨s0,_,_,_,_⟩:=Q0.out.facts
 obtain⟨s1,s2,_,_,_⟩:=Q1.out.facts
 have hB5:Hid (Below w.heap.size w (W4.alloc (.cells #[] 87)).drew):=(HB4.out.alloc HB4.out.size _).drew
 have hS5:Hid ((W4.alloc (.cells #[] 87)).drew.heap.size=W4.heap.size+1):=by unfold Hid;show(W4.alloc _).heap.size=_;rw[World.size_alloc]
 have hs4a:w.heap.size+4≤W4.heap.size:=by have:=HS4.out;omega
 have OWN0:Hid ((W4.alloc (.cells #[] 87)).drew.ownsRow w.heap.size 87 9 (.slice (some ⟨W4.heap.size,0,none⟩) 0 0) 0 []):=by
  have:=World.ownsRow_lit (e:=87) (size:=9) W4 #[] 0 (Nat.le_refl _) (Nat.zero_le _) (by simp)
  exact owns_mono this.drew (by have:=HS4.out;omega)
 first
 | (go_region_held3 (fun w'=>w'.cell? ⟨w.heap.size,0,none⟩ = some (.slice none 0 0)∧w'.cell? ⟨w.heap.size+1,0,none⟩ = some (.slice (some ⟨g2,0,none⟩) n2 cap2))
     (first|go_keep| (refine⟨?_,?_⟩ <;> (first|assumption|go_keep)))
     (first
       | (refine step_append_none _ (by rfl) _ _ _ (by rfl) w.heap.size 87 i0 9 Tryz.underlying35 HIP.out.1 (.slice (some ⟨W4.heap.size,0,none⟩) 0 0) 0 [] (by rfl) OWN0.out 0 (by rfl) ?_)
       | (refine step_append_lies _ (by rfl) _ _ _ (by rfl) w.heap.size 87 i0 _ 9 104 Tryz.underlying35 HIP.out.1 HIP.out.2.1 HIP.out.2.2.1 HIP.out.2.2.2 rfl (by omega) (.slice (some ⟨W4.heap.size,0,none⟩) 0 0) 0 [] (by rfl) OWN0.out ⟨g2,0,none⟩ n2 cap2 (itFlat o2) (by rfl) HX2.out (row_news H2.out hB5.out) (it_one o2) hn2 (by unfold maxLen;omega) (by omega) (by rw[hS5.out];omega) (W4.heap.size+1) hS5.out ?_
          intro g4 cap4 w6 hown4 hgrow4 hat4 hlt4
          have hb6:Below w.heap.size w w6:=hB5.out.trans (below_of_grown hgrow4 (fun k e=>(OWN0.out.lt k e).1) (by rw[hS5.out];omega))
          have k0':=(Q0.out.alloc (.cells #[] 87)).drew.grown hgrow4 (by simp[Value.ownBlock];omega)
          obtain⟨s3,_,_,_,_⟩:=k0'.facts
          have hgs4:w.heap.size+4≤g4:=by rcases hat4 with e|e;(simp[Value.ownBlock] at e;omega);omega
          have k1:=(Q1.out.alloc _).drew.grown hgrow4 (by simp[Value.ownBlock];omega)
          have k2:=(Q2.out.alloc _).drew.grown hgrow4 (by simp[Value.ownBlock];omega)
          have k3:=(Q3.out.alloc _).drew.grown hgrow4 (by simp[Value.ownBlock];omega)
          obtain⟨s6,s7,_,_,_⟩:=k1.facts
          have HO4:=Lh hown4;have HB6:=Lh hb6;have L1:=Lh k1;have L2:=Lh k2;have L3:=Lh k3
          clear hown4 hgrow4 hat4 hb6 k0' k1 k2 k3)))
 | fail
 all_goals
  obtain⟨r0,r1,r2,r3,r4,r5,r6,r7,r8⟩:=L2.out.facts
  obtain⟨r9,r10,r11,r12,r13⟩:=L3.out.facts
  obtain⟨y9,y10,y11,y12,y13⟩:=L3.out.free
  have hB7:Hid (Below w.heap.size w (w6.alloc (.cells #[.int .i64 x.op,.string x.ln,.int .i64 x.lnum,.string x.rn,.int .i64 x.rnum,.string x.name,.string x.user,.int .i64 x.line,.int .i64 x.col] 87)).drew):=(HB6.out.alloc HB6.out.size _).drew
  have hS7:Hid ((w6.alloc (.cells #[.int .i64 x.op,.string x.ln,.int .i64 x.lnum,.string x.rn,.int .i64 x.rnum,.string x.name,.string x.user,.int .i64 x.line,.int .i64 x.col] 87)).drew.heap.size=w6.heap.size+1):=by unfold Hid;show(w6.alloc _).heap.size=_;rw[World.size_alloc]
  have OWN4:Hid ((w6.alloc (.cells #[.int .i64 x.op,.string x.ln,.int .i64 x.lnum,.string x.rn,.int .i64 x.rnum,.string x.name,.string x.user,.int .i64 x.line,.int .i64 x.col] 87)).drew.ownsRow w.heap.size 87 9 (.slice (some ⟨g4,0,none⟩) (n2) cap4) (n2) ([] ++itFlat o2)):=by
   have:=HO4.out
   rw[Nat.zero_add] at this
   exact(this.alloc _).drew
  have hsz6:=HB6.out.size
  go_wp2
  first
  | (go_region_held3 (fun w'=>w'.cell? ⟨w.heap.size+2,0,none⟩ = some (.int .i64 x.op)∧w'.cell? ⟨w.heap.size+2,1,none⟩ = some (.string x.ln)∧w'.cell? ⟨w.heap.size+2,2,none⟩ = some (.int .i64 x.lnum)∧w'.cell? ⟨w.heap.size+2,3,none⟩ = some (.string x.rn)∧w'.cell? ⟨w.heap.size+2,4,none⟩ = some (.int .i64 x.rnum)∧w'.cell? ⟨w.heap.size+2,5,none⟩ = some (.string x.name)∧w'.cell? ⟨w.heap.size+2,6,none⟩ = some (.string x.user)∧w'.cell? ⟨w.heap.size+2,7,none⟩ = some (.int .i64 x.line)∧w'.cell? ⟨w.heap.size+2,8,none⟩ = some (.int .i64 x.col)∧w'.cell? ⟨w.heap.size+1,1,none⟩ = some (.int .i64 a2))
      (first| (with_reducible exact⟨t2,t3,t4,t5,t6,t7,t8,t9,t10,t1⟩)|go_keep)
      (first
        | (refine step_append_lies _ (by rfl) _ _ _ (by rfl) w.heap.size 87 i0 _ 9 104 Tryz.underlying35 HIP.out.1 HIP.out.2.1 HIP.out.2.2.1 HIP.out.2.2.2 rfl (by omega) (.slice (some ⟨g4,0,none⟩) (n2) cap4) (n2) ([] ++itFlat o2) (by rfl) OWN4.out ⟨w6.heap.size,0,none⟩ 1 1 [.int .i64 x.op,.string x.ln,.int .i64 x.lnum,.string x.rn,.int .i64 x.rnum,.string x.name,.string x.user,.int .i64 x.line,.int .i64 x.col] (by rfl) (by rfl) (World.news_of_block (cs:=#[.int .i64 x.op,.string x.ln,.int .i64 x.lnum,.string x.rn,.int .i64 x.rnum,.string x.name,.string x.user,.int .i64 x.line,.int .i64 x.col]) (t:=87) (fr:=(0,0)) (heap_alloc_new w6 _)) (by simp[Value.oneCell']) (by omega) (by unfold maxLen;omega) (by omega) (by rw[hS7.out];omega) (w6.heap.size+1) hS7.out ?_
           intro g5 cap5 w8 hown5 hgrow5 hat5 hlt5
           have hb8:Below w.heap.size w w8:=hB7.out.trans (below_of_grown hgrow5 (fun k e=>(OWN4.out.lt k e).1) (by rw[hS7.out];omega))
           have m1:=(L1.out.alloc _).drew.grown hgrow5 (by simp[Value.ownBlock];omega)
           have m2:=(L2.out.alloc _).drew.grown hgrow5 (by simp[Value.ownBlock];omega)
           have m3:=(L3.out.alloc _).drew.grown hgrow5 (by simp[Value.ownBlock];omega)
           obtain⟨_,p1,_,_,_⟩:=m1.facts
           obtain⟨p2,p3,p4,p5,p6,p7,p8,p9,p10⟩:=m2.facts
           obtain⟨p11,p12,p13,p14,p15⟩:=m3.facts
           obtain⟨p16,p17,p18,p19,p20⟩:=m3.free
           have tk:=fun(g j:Nat) (v:Value) (hg:g≠w.heap.size+3) (h:w8.cell? ⟨g,j,none⟩ = some v)=>cell_tok (k:=w.heap.size+3) (.slice (some ⟨g5,0,none⟩) (n2+1) cap5) (.int .i64 a2) (.int .i64 0) (.int .i64 0) (.int .i64 0) hg h
           have t1:=tk _ _ _ (by omega) p1;have t2:=tk _ _ _ (by omega) p2;have t3:=tk _ _ _ (by omega) p3;have t4:=tk _ _ _ (by omega) p4;have t5:=tk _ _ _ (by omega) p5;have t6:=tk _ _ _ (by omega) p6;have t7:=tk _ _ _ (by omega) p7;have t8:=tk _ _ _ (by omega) p8;have t9:=tk _ _ _ (by omega) p9;have t10:=tk _ _ _ (by omega) p10
           clear tk
           have HO5:=Lh hown5;have HB8:=Lh hb8;have M3:=Lh m3
           clear hown5 hgrow5 hat5 hb8 m1 m2 m3)))
  | fail
  all_goals
   have hE:=Lh (M3.out.stored (.slice (some ⟨g5,0,none⟩) (n2+1) cap5) a2 0 0 0).facts
   have hROW:=Lh (PrB.row M3.out HO5.out (by decide) (.slice (some ⟨g5,0,none⟩) (n2+1) cap5) a2 0 0 0)
   have hBEL:=Lh (below_tok HB8.out (show w.heap.size≤w.heap.size+3 by omega) (.slice (some ⟨g5,0,none⟩) (n2+1) cap5) (.int .i64 a2) (.int .i64 0) (.int .i64 0) (.int .i64 0))
   go_wp2
   obtain⟨e0,e1,e2,e3,e4⟩:=hE.out
   refine bodyPost_ret (v:=.agg #[.slice (some ⟨g5,0,none⟩) (n2+1) cap5,.int .i64 a2,.int .i64 0,.int .i64 0,.int .i64 0]) (by simp[results,Tryz.results107,go_sem,e0,e1,e2,e3,e4]) rfl ⟨g5,cap5,rfl,?_,hBEL.out⟩
   have hfl:itFlat (o2 ++ [x])= [] ++itFlat o2 ++ [.int .i64 x.op,.string x.ln,.int .i64 x.lnum,.string x.rn,.int .i64 x.rnum,.string x.name,.string x.user,.int .i64 x.line,.int .i64 x.col]:=by simp[itFlat,itCells]
   rw[hfl]
   exact hROW.out
def TlB (w:World) (b:Nat):Prop:=w.heap[b]?=some (.cells #[.string ⟨#[116,114,117,101]⟩,.string ⟨#[102,97,108,115,101]⟩,.string ⟨#[99,111,109,112,108,101,116,101]⟩,.string ⟨#[115,116,117,99,107]⟩] 9 (0,0))
theorem TlB.reads {w:World} {b:Nat} (h:TlB w b):Reads w (.slice (some ⟨b,0,none⟩) 4 4) (strs trueL):=blk_reads h 4 (by decide)
def OlB (w:World) (b:Nat):Prop:=w.heap[b]?=some (.cells #[.string ⟨#[111,112,101,110]⟩,.string ⟨#[100,111,110,101]⟩,.string ⟨#[99,97,110]⟩,.string ⟨#[100,105,100]⟩] 9 (0,0))
theorem OlB.reads {w:World} {b:Nat} (h:OlB w b):Reads w (.slice (some ⟨b,0,none⟩) 4 4) (strs openL):=blk_reads h 4 (by decide)
theorem ratom_t0 {w:World} {B:Nat} {lv:Value} {T:List Tk} (h:TkIn w B lv T) (hB:B≤w.heap.size) (i:Int) (hlo:-9223372036854775808≤i) (hhi:i≤1000000) (prop:Bool)
 (hk:idxP trueL (tkAt T i).text=0) :
 Calls Tryz.prog 144 #[lv,.int .i64 i,.bool prop] w (RPost w (.ok [item 1 (tkAt T i)] (i+1))):=by
 obtain⟨x,hx⟩:∃ x,tkAt T i=x:=⟨_,rfl⟩
 rw[hx] at hk
 have HX:=Lh hx;have HK:=Lh hk
 have HTK:Hid (∀ W,Below w.heap.size w W→TkIn W B lv T):=fun W hW=>h.below (hW.mono hB)
 have HB0:=Lh ((Below.refl w.heap.size w).alloc (Nat.le_refl _) oB6)
 have HQ:=Lh (show PrB (w.alloc oB6) w.heap.size (.slice none 0 0) 0 0 0 0 from heap_alloc_new w _)
 rw[hx]
 clear h hx hk
 have hwi:IntKind.i64.wrap (i+1)=i+1:=IntWalk.i64_in _ ⟨by omega,by omega⟩
 go_enter Tryz.func144,Tryz.ntmps144
 go_wp2_with fail
 refine(rctok_any (HTK.out _ HB0.out) i).mono ?_
 rintro e w1 ⟨rfl,hb1⟩
 rw[HX.out]
 unfold tokV
 have hB2:=((HB0.out.trans (hb1.mono HB0.out.size)).alloc (Nat.le_trans HB0.out.size hb1.size) (tO x))
 have HB2:=Lh (hB2.alloc hB2.size oB2)
 have hq1:=HQ.out.below hb1
 have hl1:=hq1.lt
 have HQ2:=Lh ((hq1.alloc (tO x)).alloc oB2)
 have HT2:=Lh ((show TkB (w1.alloc (tO x)) w1.heap.size x from heap_alloc_new w1 _).alloc oB2)
 have HL2:=Lh (show TlB ((w1.alloc (tO x)).alloc oB2) (w1.heap.size+1) from heap_at_size _ _ _ (by simp))
 obtain⟨d0,d1,d2,d3,d4⟩:=HT2.out.facts
 clear hb1 hB2 hq1
 go_wp2_with fail
 refine(rcindex_any _ trueL x.text _ HL2.out.reads (by decide)).mono ?_
 rintro e w' ⟨rfl,rfl⟩
 rw[HK.out]
 have HB3:=Lh (HB2.out.alloc HB2.out.size oB13)
 have HQ3:=Lh (HQ2.out.alloc oB13)
 have HT3:=Lh (HT2.out.alloc oB13)
 have hO3: (((w1.alloc (tO x)).alloc oB2).alloc oB13).heap[w1.heap.size+1+1]?=some (.cells #[.int .i64 1,.int .i64 2,.int .i64 13,.int .i64 14] 3 (0,0)):=heap_at_size _ _ _ (by simp)
 have HO3:=Lh hO3
 clear hO3 d0 d1 d2 d3 d4
 go_wp2
 obtain⟨W3,hW3⟩:∃ W,((w1.alloc (tO x)).alloc oB2).alloc oB13=W:=⟨_,rfl⟩
 rw[hW3] at HB3 HQ3 HT3 HO3 ⊢
 clear hW3 HB2 HQ2 HT2 HL2
 obtain⟨c0,c1,c2,c3,c4⟩:=HQ3.out.facts
 obtain⟨z0,z1,z2,z3,z4⟩:=HQ3.out.free
 have hlt3:=HQ3.out.lt
 obtain⟨_,_,_,d3,d4⟩:=HT3.out.facts
 have o0:W3.cell? ⟨w1.heap.size+1+1,0,none⟩ = some (.int .i64 1):=by simp[World.cell?,HO3.out]
 have hlo3:=(Array.getElem?_eq_some_iff.1 HO3.out).1
 have n0:W3.drew.cell? ⟨w1.heap.size+1+1,0,none⟩ = some (.int .i64 1):=o0
 have n1:W3.drew.cell? ⟨w1.heap.size,3,none⟩ = some (.int .i64 x.line):=d3
 have n2:W3.drew.cell? ⟨w1.heap.size,4,none⟩ = some (.int .i64 x.col):=d4
 have tk:∀ (g j:Nat) (v:Value),g≠w.heap.size→g < W3.heap.size→W3.cell? ⟨g,j,none⟩ = some v→((((((W3.setCell ⟨w.heap.size,0,none⟩ (.slice (some ⟨W3.heap.size,0,none⟩) 1 1)).setCell ⟨w.heap.size,1,none⟩ (.int .i64 (i+1))).setCell ⟨w.heap.size,2,none⟩ (.int .i64 0)).setCell ⟨w.heap.size,3,none⟩ (.int .i64 0)).setCell ⟨w.heap.size,4,none⟩ (.int .i64 0)).alloc (.cells #[.int .i64 1,.string ⟨#[]⟩,.int .i64 0,.string ⟨#[]⟩,.int .i64 0,.string ⟨#[]⟩,.string ⟨#[]⟩,.int .i64 x.line,.int .i64 x.col] 87)).drew.cell? ⟨g,j,none⟩ = some v:=by
  intro g j v hg hl hc
  exact((((Below.refl _ (((((W3.setCell ⟨w.heap.size,0,none⟩ (.slice (some ⟨W3.heap.size,0,none⟩) 1 1)).setCell ⟨w.heap.size,1,none⟩ (.int .i64 (i+1))).setCell ⟨w.heap.size,2,none⟩ (.int .i64 0)).setCell ⟨w.heap.size,3,none⟩ (.int .i64 0)).setCell ⟨w.heap.size,4,none⟩ (.int .i64 0))).alloc (Nat.le_refl _) (.cells #[.int .i64 1,.string ⟨#[]⟩,.int .i64 0,.string ⟨#[]⟩,.int .i64 0,.string ⟨#[]⟩,.string ⟨#[]⟩,.int .i64 x.line,.int .i64 x.col] 87)).drew).cell (p:=⟨g,j,none⟩) (by simpa only[World.size_setCell] using hl)).trans (cell_tok _ _ _ _ _ hg hc)
 have hltk:=HT3.out.lt
 have t0:=tk _ _ _ (by omega) hlo3 o0;have t1:=tk _ _ _ (by omega) hltk d3;have t2:=tk _ _ _ (by omega) hltk d4
 clear tk
 have fk:∀ (g j:Nat) (v:Value),g < W3.heap.size→W3.cell? ⟨g,j,none⟩ = some v→(W3.alloc (.cells #[.int .i64 1,.string ⟨#[]⟩,.int .i64 0,.string ⟨#[]⟩,.int .i64 0,.string ⟨#[]⟩,.string ⟨#[]⟩,.int .i64 x.line,.int .i64 x.col] 87)).drew.cell? ⟨g,j,none⟩ = some v:=by
  intro g j v hl hc
  exact((((Below.refl _ W3).alloc (Nat.le_refl _) (.cells #[.int .i64 1,.string ⟨#[]⟩,.int .i64 0,.string ⟨#[]⟩,.int .i64 0,.string ⟨#[]⟩,.string ⟨#[]⟩,.int .i64 x.line,.int .i64 x.col] 87)).drew).cell (p:=⟨g,j,none⟩) hl).trans hc
 have f0:=fk _ _ _ hlo3 o0;have f1:=fk _ _ _ hltk d3;have f2:=fk _ _ _ hltk d4
 clear fk
 have hq9:=HQ3.out.stored (.slice (some ⟨W3.heap.size,0,none⟩) 1 1) (i+1) 0 0 0
 have hb9:=below_tok HB3.out (Nat.le_refl _) (.slice (some ⟨W3.heap.size,0,none⟩) 1 1) (.int .i64 (i+1)) (.int .i64 0) (.int .i64 0) (.int .i64 0)
 have HE:=Lh (hq9.alloc (.cells #[.int .i64 1,.string ⟨#[]⟩,.int .i64 0,.string ⟨#[]⟩,.int .i64 0,.string ⟨#[]⟩,.string ⟨#[]⟩,.int .i64 x.line,.int .i64 x.col] 87)).drew.facts
 have HBE:=Lh (hb9.alloc hb9.size (.cells #[.int .i64 1,.string ⟨#[]⟩,.int .i64 0,.string ⟨#[]⟩,.int .i64 0,.string ⟨#[]⟩,.string ⟨#[]⟩,.int .i64 x.line,.int .i64 x.col] 87)).drew
 have hown:=World.ownsRow_lit (e:=87) (size:=9) (((((W3.setCell ⟨w.heap.size,0,none⟩ (.slice (some ⟨W3.heap.size,0,none⟩) 1 1)).setCell ⟨w.heap.size,1,none⟩ (.int .i64 (i+1))).setCell ⟨w.heap.size,2,none⟩ (.int .i64 0)).setCell ⟨w.heap.size,3,none⟩ (.int .i64 0)).setCell ⟨w.heap.size,4,none⟩ (.int .i64 0)) (#[.int .i64 1,.string ⟨#[]⟩,.int .i64 0,.string ⟨#[]⟩,.int .i64 0,.string ⟨#[]⟩,.string ⟨#[]⟩,.int .i64 x.line,.int .i64 x.col]) 1 (Nat.le_refl _) (by decide) rfl
 simp only[World.size_setCell] at hown
 have HOWN:=Lh (owns_mono hown.drew (show w.heap.size≤W3.heap.size by omega))
 clear hown hq9 hb9
 go_region_held3 (fun w'=>w'.cell? ⟨w1.heap.size+1+1,0,none⟩ = some (.int .i64 1)∧w'.cell? ⟨w1.heap.size,3,none⟩ = some (.int .i64 x.line)∧w'.cell? ⟨w1.heap.size,4,none⟩ = some (.int .i64 x.col))
  (first| (with_reducible exact⟨n0,n1,n2⟩)| (with_reducible exact⟨f0,f1,f2⟩)| (with_reducible exact⟨t0,t1,t2⟩)| (trace_state;fail))
  (fail)
 go_wp2
 obtain⟨e0,e1,e2,e3,e4⟩:=HE.out
 refine bodyPost_ret (v:=.agg #[.slice (some ⟨W3.heap.size,0,none⟩) 1 1,.int .i64 (i+1),.int .i64 0,.int .i64 0,.int .i64 0]) (by simp[results,Tryz.results144,go_sem,e0,e1,e2,e3,e4]) rfl ?_
 exact⟨W3.heap.size,1,rfl,HOWN.out,HBE.out⟩
theorem ratom_t1 {w:World} {B:Nat} {lv:Value} {T:List Tk} (h:TkIn w B lv T) (hB:B≤w.heap.size) (i:Int) (hlo:-9223372036854775808≤i) (hhi:i≤1000000) (prop:Bool)
 (hk:idxP trueL (tkAt T i).text=1) :
 Calls Tryz.prog 144 #[lv,.int .i64 i,.bool prop] w (RPost w (.ok [item 2 (tkAt T i)] (i+1))):=by
 obtain⟨x,hx⟩:∃ x,tkAt T i=x:=⟨_,rfl⟩
 rw[hx] at hk
 have HX:=Lh hx;have HK:=Lh hk
 have HTK:Hid (∀ W,Below w.heap.size w W→TkIn W B lv T):=fun W hW=>h.below (hW.mono hB)
 have HB0:=Lh ((Below.refl w.heap.size w).alloc (Nat.le_refl _) oB6)
 have HQ:=Lh (show PrB (w.alloc oB6) w.heap.size (.slice none 0 0) 0 0 0 0 from heap_alloc_new w _)
 rw[hx]
 clear h hx hk
 have hwi:IntKind.i64.wrap (i+1)=i+1:=IntWalk.i64_in _ ⟨by omega,by omega⟩
 go_enter Tryz.func144,Tryz.ntmps144
 go_wp2_with fail
 refine(rctok_any (HTK.out _ HB0.out) i).mono ?_
 rintro e w1 ⟨rfl,hb1⟩
 rw[HX.out]
 unfold tokV
 have hB2:=((HB0.out.trans (hb1.mono HB0.out.size)).alloc (Nat.le_trans HB0.out.size hb1.size) (tO x))
 have HB2:=Lh (hB2.alloc hB2.size oB2)
 have hq1:=HQ.out.below hb1
 have hl1:=hq1.lt
 have HQ2:=Lh ((hq1.alloc (tO x)).alloc oB2)
 have HT2:=Lh ((show TkB (w1.alloc (tO x)) w1.heap.size x from heap_alloc_new w1 _).alloc oB2)
 have HL2:=Lh (show TlB ((w1.alloc (tO x)).alloc oB2) (w1.heap.size+1) from heap_at_size _ _ _ (by simp))
 obtain⟨d0,d1,d2,d3,d4⟩:=HT2.out.facts
 clear hb1 hB2 hq1
 go_wp2_with fail
 refine(rcindex_any _ trueL x.text _ HL2.out.reads (by decide)).mono ?_
 rintro e w' ⟨rfl,rfl⟩
 rw[HK.out]
 have HB3:=Lh (HB2.out.alloc HB2.out.size oB13)
 have HQ3:=Lh (HQ2.out.alloc oB13)
 have HT3:=Lh (HT2.out.alloc oB13)
 have hO3: (((w1.alloc (tO x)).alloc oB2).alloc oB13).heap[w1.heap.size+1+1]?=some (.cells #[.int .i64 1,.int .i64 2,.int .i64 13,.int .i64 14] 3 (0,0)):=heap_at_size _ _ _ (by simp)
 have HO3:=Lh hO3
 clear hO3 d0 d1 d2 d3 d4
 go_wp2
 obtain⟨W3,hW3⟩:∃ W,((w1.alloc (tO x)).alloc oB2).alloc oB13=W:=⟨_,rfl⟩
 rw[hW3] at HB3 HQ3 HT3 HO3 ⊢
 clear hW3 HB2 HQ2 HT2 HL2
 obtain⟨c0,c1,c2,c3,c4⟩:=HQ3.out.facts
 obtain⟨z0,z1,z2,z3,z4⟩:=HQ3.out.free
 have hlt3:=HQ3.out.lt
 obtain⟨_,_,_,d3,d4⟩:=HT3.out.facts
 have o0:W3.cell? ⟨w1.heap.size+1+1,1,none⟩ = some (.int .i64 2):=by simp[World.cell?,HO3.out]
 have hlo3:=(Array.getElem?_eq_some_iff.1 HO3.out).1
 have n0:W3.drew.cell? ⟨w1.heap.size+1+1,1,none⟩ = some (.int .i64 2):=o0
 have n1:W3.drew.cell? ⟨w1.heap.size,3,none⟩ = some (.int .i64 x.line):=d3
 have n2:W3.drew.cell? ⟨w1.heap.size,4,none⟩ = some (.int .i64 x.col):=d4
 have tk:∀ (g j:Nat) (v:Value),g≠w.heap.size→g < W3.heap.size→W3.cell? ⟨g,j,none⟩ = some v→((((((W3.setCell ⟨w.heap.size,0,none⟩ (.slice (some ⟨W3.heap.size,0,none⟩) 1 1)).setCell ⟨w.heap.size,1,none⟩ (.int .i64 (i+1))).setCell ⟨w.heap.size,2,none⟩ (.int .i64 0)).setCell ⟨w.heap.size,3,none⟩ (.int .i64 0)).setCell ⟨w.heap.size,4,none⟩ (.int .i64 0)).alloc (.cells #[.int .i64 2,.string ⟨#[]⟩,.int .i64 0,.string ⟨#[]⟩,.int .i64 0,.string ⟨#[]⟩,.string ⟨#[]⟩,.int .i64 x.line,.int .i64 x.col] 87)).drew.cell? ⟨g,j,none⟩ = some v:=by
  intro g j v hg hl hc
  exact((((Below.refl _ (((((W3.setCell ⟨w.heap.size,0,none⟩ (.slice (some ⟨W3.heap.size,0,none⟩) 1 1)).setCell ⟨w.heap.size,1,none⟩ (.int .i64 (i+1))).setCell ⟨w.heap.size,2,none⟩ (.int .i64 0)).setCell ⟨w.heap.size,3,none⟩ (.int .i64 0)).setCell ⟨w.heap.size,4,none⟩ (.int .i64 0))).alloc (Nat.le_refl _) (.cells #[.int .i64 2,.string ⟨#[]⟩,.int .i64 0,.string ⟨#[]⟩,.int .i64 0,.string ⟨#[]⟩,.string ⟨#[]⟩,.int .i64 x.line,.int .i64 x.col] 87)).drew).cell (p:=⟨g,j,none⟩) (by simpa only[World.size_setCell] using hl)).trans (cell_tok _ _ _ _ _ hg hc)
 have hltk:=HT3.out.lt
 have t0:=tk _ _ _ (by omega) hlo3 o0;have t1:=tk _ _ _ (by omega) hltk d3;have t2:=tk _ _ _ (by omega) hltk d4
 clear tk
 have fk:∀ (g j:Nat) (v:Value),g < W3.heap.size→W3.cell? ⟨g,j,none⟩ = some v→(W3.alloc (.cells #[.int .i64 2,.string ⟨#[]⟩,.int .i64 0,.string ⟨#[]⟩,.int .i64 0,.string ⟨#[]⟩,.string ⟨#[]⟩,.int .i64 x.line,.int .i64 x.col] 87)).drew.cell? ⟨g,j,none⟩ = some v:=by
  intro g j v hl hc
  exact((((Below.refl _ W3).alloc (Nat.le_refl _) (.cells #[.int .i64 2,.string ⟨#[]⟩,.int .i64 0,.string ⟨#[]⟩,.int .i64 0,.string ⟨#[]⟩,.string ⟨#[]⟩,.int .i64 x.line,.int .i64 x.col] 87)).drew).cell (p:=⟨g,j,none⟩) hl).trans hc
 have f0:=fk _ _ _ hlo3 o0;have f1:=fk _ _ _ hltk d3;have f2:=fk _ _ _ hltk d4
 clear fk
 have hq9:=HQ3.out.stored (.slice (some ⟨W3.heap.size,0,none⟩) 1 1) (i+1) 0 0 0
 have hb9:=below_tok HB3.out (Nat.le_refl _) (.slice (some ⟨W3.heap.size,0,none⟩) 1 1) (.int .i64 (i+1)) (.int .i64 0) (.int .i64 0) (.int .i64 0)
 have HE:=Lh (hq9.alloc (.cells #[.int .i64 2,.string ⟨#[]⟩,.int .i64 0,.string ⟨#[]⟩,.int .i64 0,.string ⟨#[]⟩,.string ⟨#[]⟩,.int .i64 x.line,.int .i64 x.col] 87)).drew.facts
 have HBE:=Lh (hb9.alloc hb9.size (.cells #[.int .i64 2,.string ⟨#[]⟩,.int .i64 0,.string ⟨#[]⟩,.int .i64 0,.string ⟨#[]⟩,.string ⟨#[]⟩,.int .i64 x.line,.int .i64 x.col] 87)).drew
 have hown:=World.ownsRow_lit (e:=87) (size:=9) (((((W3.setCell ⟨w.heap.size,0,none⟩ (.slice (some ⟨W3.heap.size,0,none⟩) 1 1)).setCell ⟨w.heap.size,1,none⟩ (.int .i64 (i+1))).setCell ⟨w.heap.size,2,none⟩ (.int .i64 0)).setCell ⟨w.heap.size,3,none⟩ (.int .i64 0)).setCell ⟨w.heap.size,4,none⟩ (.int .i64 0)) (#[.int .i64 2,.string ⟨#[]⟩,.int .i64 0,.string ⟨#[]⟩,.int .i64 0,.string ⟨#[]⟩,.string ⟨#[]⟩,.int .i64 x.line,.int .i64 x.col]) 1 (Nat.le_refl _) (by decide) rfl
 simp only[World.size_setCell] at hown
 have HOWN:=Lh (owns_mono hown.drew (show w.heap.size≤W3.heap.size by omega))
 clear hown hq9 hb9
 go_region_held3 (fun w'=>w'.cell? ⟨w1.heap.size+1+1,1,none⟩ = some (.int .i64 2)∧w'.cell? ⟨w1.heap.size,3,none⟩ = some (.int .i64 x.line)∧w'.cell? ⟨w1.heap.size,4,none⟩ = some (.int .i64 x.col))
  (first| (with_reducible exact⟨n0,n1,n2⟩)| (with_reducible exact⟨f0,f1,f2⟩)| (with_reducible exact⟨t0,t1,t2⟩)| (trace_state;fail))
  (fail)
 go_wp2
 obtain⟨e0,e1,e2,e3,e4⟩:=HE.out
 refine bodyPost_ret (v:=.agg #[.slice (some ⟨W3.heap.size,0,none⟩) 1 1,.int .i64 (i+1),.int .i64 0,.int .i64 0,.int .i64 0]) (by simp[results,Tryz.results144,go_sem,e0,e1,e2,e3,e4]) rfl ?_
 exact⟨W3.heap.size,1,rfl,HOWN.out,HBE.out⟩
theorem ratom_t2 {w:World} {B:Nat} {lv:Value} {T:List Tk} (h:TkIn w B lv T) (hB:B≤w.heap.size) (i:Int) (hlo:-9223372036854775808≤i) (hhi:i≤1000000)
 (hk:idxP trueL (tkAt T i).text=2) :
 Calls Tryz.prog 144 #[lv,.int .i64 i,.bool true] w (RPost w (.ok [item 13 (tkAt T i)] (i+1))):=by
 obtain⟨x,hx⟩:∃ x,tkAt T i=x:=⟨_,rfl⟩
 rw[hx] at hk
 have HX:=Lh hx;have HK:=Lh hk
 have HTK:Hid (∀ W,Below w.heap.size w W→TkIn W B lv T):=fun W hW=>h.below (hW.mono hB)
 have HB0:=Lh ((Below.refl w.heap.size w).alloc (Nat.le_refl _) oB6)
 have HQ:=Lh (show PrB (w.alloc oB6) w.heap.size (.slice none 0 0) 0 0 0 0 from heap_alloc_new w _)
 rw[hx]
 clear h hx hk
 have hwi:IntKind.i64.wrap (i+1)=i+1:=IntWalk.i64_in _ ⟨by omega,by omega⟩
 go_enter Tryz.func144,Tryz.ntmps144
 go_wp2_with fail
 refine(rctok_any (HTK.out _ HB0.out) i).mono ?_
 rintro e w1 ⟨rfl,hb1⟩
 rw[HX.out]
 unfold tokV
 have hB2:=((HB0.out.trans (hb1.mono HB0.out.size)).alloc (Nat.le_trans HB0.out.size hb1.size) (tO x))
 have HB2:=Lh (hB2.alloc hB2.size oB2)
 have hq1:=HQ.out.below hb1
 have hl1:=hq1.lt
 have HQ2:=Lh ((hq1.alloc (tO x)).alloc oB2)
 have HT2:=Lh ((show TkB (w1.alloc (tO x)) w1.heap.size x from heap_alloc_new w1 _).alloc oB2)
 have HL2:=Lh (show TlB ((w1.alloc (tO x)).alloc oB2) (w1.heap.size+1) from heap_at_size _ _ _ (by simp))
 obtain⟨d0,d1,d2,d3,d4⟩:=HT2.out.facts
 clear hb1 hB2 hq1
 go_wp2_with fail
 refine(rcindex_any _ trueL x.text _ HL2.out.reads (by decide)).mono ?_
 rintro e w' ⟨rfl,rfl⟩
 rw[HK.out]
 have HB3:=Lh (HB2.out.alloc HB2.out.size oB13)
 have HQ3:=Lh (HQ2.out.alloc oB13)
 have HT3:=Lh (HT2.out.alloc oB13)
 have hO3: (((w1.alloc (tO x)).alloc oB2).alloc oB13).heap[w1.heap.size+1+1]?=some (.cells #[.int .i64 1,.int .i64 2,.int .i64 13,.int .i64 14] 3 (0,0)):=heap_at_size _ _ _ (by simp)
 have HO3:=Lh hO3
 clear hO3 d0 d1 d2 d3 d4
 go_wp2
 obtain⟨W3,hW3⟩:∃ W,((w1.alloc (tO x)).alloc oB2).alloc oB13=W:=⟨_,rfl⟩
 rw[hW3] at HB3 HQ3 HT3 HO3 ⊢
 clear hW3 HB2 HQ2 HT2 HL2
 obtain⟨c0,c1,c2,c3,c4⟩:=HQ3.out.facts
 obtain⟨z0,z1,z2,z3,z4⟩:=HQ3.out.free
 have hlt3:=HQ3.out.lt
 obtain⟨_,_,_,d3,d4⟩:=HT3.out.facts
 have o0:W3.cell? ⟨w1.heap.size+1+1,2,none⟩ = some (.int .i64 13):=by simp[World.cell?,HO3.out]
 have hlo3:=(Array.getElem?_eq_some_iff.1 HO3.out).1
 have n0:W3.drew.cell? ⟨w1.heap.size+1+1,2,none⟩ = some (.int .i64 13):=o0
 have n1:W3.drew.cell? ⟨w1.heap.size,3,none⟩ = some (.int .i64 x.line):=d3
 have n2:W3.drew.cell? ⟨w1.heap.size,4,none⟩ = some (.int .i64 x.col):=d4
 have tk:∀ (g j:Nat) (v:Value),g≠w.heap.size→g < W3.heap.size→W3.cell? ⟨g,j,none⟩ = some v→((((((W3.setCell ⟨w.heap.size,0,none⟩ (.slice (some ⟨W3.heap.size,0,none⟩) 1 1)).setCell ⟨w.heap.size,1,none⟩ (.int .i64 (i+1))).setCell ⟨w.heap.size,2,none⟩ (.int .i64 0)).setCell ⟨w.heap.size,3,none⟩ (.int .i64 0)).setCell ⟨w.heap.size,4,none⟩ (.int .i64 0)).alloc (.cells #[.int .i64 13,.string ⟨#[]⟩,.int .i64 0,.string ⟨#[]⟩,.int .i64 0,.string ⟨#[]⟩,.string ⟨#[]⟩,.int .i64 x.line,.int .i64 x.col] 87)).drew.cell? ⟨g,j,none⟩ = some v:=by
  intro g j v hg hl hc
  exact((((Below.refl _ (((((W3.setCell ⟨w.heap.size,0,none⟩ (.slice (some ⟨W3.heap.size,0,none⟩) 1 1)).setCell ⟨w.heap.size,1,none⟩ (.int .i64 (i+1))).setCell ⟨w.heap.size,2,none⟩ (.int .i64 0)).setCell ⟨w.heap.size,3,none⟩ (.int .i64 0)).setCell ⟨w.heap.size,4,none⟩ (.int .i64 0))).alloc (Nat.le_refl _) (.cells #[.int .i64 13,.string ⟨#[]⟩,.int .i64 0,.string ⟨#[]⟩,.int .i64 0,.string ⟨#[]⟩,.string ⟨#[]⟩,.int .i64 x.line,.int .i64 x.col] 87)).drew).cell (p:=⟨g,j,none⟩) (by simpa only[World.size_setCell] using hl)).trans (cell_tok _ _ _ _ _ hg hc)
 have hltk:=HT3.out.lt
 have t0:=tk _ _ _ (by omega) hlo3 o0;have t1:=tk _ _ _ (by omega) hltk d3;have t2:=tk _ _ _ (by omega) hltk d4
 clear tk
 have fk:∀ (g j:Nat) (v:Value),g < W3.heap.size→W3.cell? ⟨g,j,none⟩ = some v→(W3.alloc (.cells #[.int .i64 13,.string ⟨#[]⟩,.int .i64 0,.string ⟨#[]⟩,.int .i64 0,.string ⟨#[]⟩,.string ⟨#[]⟩,.int .i64 x.line,.int .i64 x.col] 87)).drew.cell? ⟨g,j,none⟩ = some v:=by
  intro g j v hl hc
  exact((((Below.refl _ W3).alloc (Nat.le_refl _) (.cells #[.int .i64 13,.string ⟨#[]⟩,.int .i64 0,.string ⟨#[]⟩,.int .i64 0,.string ⟨#[]⟩,.string ⟨#[]⟩,.int .i64 x.line,.int .i64 x.col] 87)).drew).cell (p:=⟨g,j,none⟩) hl).trans hc
 have f0:=fk _ _ _ hlo3 o0;have f1:=fk _ _ _ hltk d3;have f2:=fk _ _ _ hltk d4
 clear fk
 have hq9:=HQ3.out.stored (.slice (some ⟨W3.heap.size,0,none⟩) 1 1) (i+1) 0 0 0
 have hb9:=below_tok HB3.out (Nat.le_refl _) (.slice (some ⟨W3.heap.size,0,none⟩) 1 1) (.int .i64 (i+1)) (.int .i64 0) (.int .i64 0) (.int .i64 0)
 have HE:=Lh (hq9.alloc (.cells #[.int .i64 13,.string ⟨#[]⟩,.int .i64 0,.string ⟨#[]⟩,.int .i64 0,.string ⟨#[]⟩,.string ⟨#[]⟩,.int .i64 x.line,.int .i64 x.col] 87)).drew.facts
 have HBE:=Lh (hb9.alloc hb9.size (.cells #[.int .i64 13,.string ⟨#[]⟩,.int .i64 0,.string ⟨#[]⟩,.int .i64 0,.string ⟨#[]⟩,.string ⟨#[]⟩,.int .i64 x.line,.int .i64 x.col] 87)).drew
 have hown:=World.ownsRow_lit (e:=87) (size:=9) (((((W3.setCell ⟨w.heap.size,0,none⟩ (.slice (some ⟨W3.heap.size,0,none⟩) 1 1)).setCell ⟨w.heap.size,1,none⟩ (.int .i64 (i+1))).setCell ⟨w.heap.size,2,none⟩ (.int .i64 0)).setCell ⟨w.heap.size,3,none⟩ (.int .i64 0)).setCell ⟨w.heap.size,4,none⟩ (.int .i64 0)) (#[.int .i64 13,.string ⟨#[]⟩,.int .i64 0,.string ⟨#[]⟩,.int .i64 0,.string ⟨#[]⟩,.string ⟨#[]⟩,.int .i64 x.line,.int .i64 x.col]) 1 (Nat.le_refl _) (by decide) rfl
 simp only[World.size_setCell] at hown
 have HOWN:=Lh (owns_mono hown.drew (show w.heap.size≤W3.heap.size by omega))
 clear hown hq9 hb9
 go_region_held3 (fun w'=>w'.cell? ⟨w1.heap.size+1+1,2,none⟩ = some (.int .i64 13)∧w'.cell? ⟨w1.heap.size,3,none⟩ = some (.int .i64 x.line)∧w'.cell? ⟨w1.heap.size,4,none⟩ = some (.int .i64 x.col))
  (first| (with_reducible exact⟨n0,n1,n2⟩)| (with_reducible exact⟨f0,f1,f2⟩)| (with_reducible exact⟨t0,t1,t2⟩)| (trace_state;fail))
  (fail)
 go_wp2
 obtain⟨e0,e1,e2,e3,e4⟩:=HE.out
 refine bodyPost_ret (v:=.agg #[.slice (some ⟨W3.heap.size,0,none⟩) 1 1,.int .i64 (i+1),.int .i64 0,.int .i64 0,.int .i64 0]) (by simp[results,Tryz.results144,go_sem,e0,e1,e2,e3,e4]) rfl ?_
 exact⟨W3.heap.size,1,rfl,HOWN.out,HBE.out⟩
theorem ratom_t3 {w:World} {B:Nat} {lv:Value} {T:List Tk} (h:TkIn w B lv T) (hB:B≤w.heap.size) (i:Int) (hlo:-9223372036854775808≤i) (hhi:i≤1000000)
 (hk:idxP trueL (tkAt T i).text=3) :
 Calls Tryz.prog 144 #[lv,.int .i64 i,.bool true] w (RPost w (.ok [item 14 (tkAt T i)] (i+1))):=by
 obtain⟨x,hx⟩:∃ x,tkAt T i=x:=⟨_,rfl⟩
 rw[hx] at hk
 have HX:=Lh hx;have HK:=Lh hk
 have HTK:Hid (∀ W,Below w.heap.size w W→TkIn W B lv T):=fun W hW=>h.below (hW.mono hB)
 have HB0:=Lh ((Below.refl w.heap.size w).alloc (Nat.le_refl _) oB6)
 have HQ:=Lh (show PrB (w.alloc oB6) w.heap.size (.slice none 0 0) 0 0 0 0 from heap_alloc_new w _)
 rw[hx]
 clear h hx hk
 have hwi:IntKind.i64.wrap (i+1)=i+1:=IntWalk.i64_in _ ⟨by omega,by omega⟩
 go_enter Tryz.func144,Tryz.ntmps144
 go_wp2_with fail
 refine(rctok_any (HTK.out _ HB0.out) i).mono ?_
 rintro e w1 ⟨rfl,hb1⟩
 rw[HX.out]
 unfold tokV
 have hB2:=((HB0.out.trans (hb1.mono HB0.out.size)).alloc (Nat.le_trans HB0.out.size hb1.size) (tO x))
 have HB2:=Lh (hB2.alloc hB2.size oB2)
 have hq1:=HQ.out.below hb1
 have hl1:=hq1.lt
 have HQ2:=Lh ((hq1.alloc (tO x)).alloc oB2)
 have HT2:=Lh ((show TkB (w1.alloc (tO x)) w1.heap.size x from heap_alloc_new w1 _).alloc oB2)
 have HL2:=Lh (show TlB ((w1.alloc (tO x)).alloc oB2) (w1.heap.size+1) from heap_at_size _ _ _ (by simp))
 obtain⟨d0,d1,d2,d3,d4⟩:=HT2.out.facts
 clear hb1 hB2 hq1
 go_wp2_with fail
 refine(rcindex_any _ trueL x.text _ HL2.out.reads (by decide)).mono ?_
 rintro e w' ⟨rfl,rfl⟩
 rw[HK.out]
 have HB3:=Lh (HB2.out.alloc HB2.out.size oB13)
 have HQ3:=Lh (HQ2.out.alloc oB13)
 have HT3:=Lh (HT2.out.alloc oB13)
 have hO3: (((w1.alloc (tO x)).alloc oB2).alloc oB13).heap[w1.heap.size+1+1]?=some (.cells #[.int .i64 1,.int .i64 2,.int .i64 13,.int .i64 14] 3 (0,0)):=heap_at_size _ _ _ (by simp)
 have HO3:=Lh hO3
 clear hO3 d0 d1 d2 d3 d4
 go_wp2
 obtain⟨W3,hW3⟩:∃ W,((w1.alloc (tO x)).alloc oB2).alloc oB13=W:=⟨_,rfl⟩
 rw[hW3] at HB3 HQ3 HT3 HO3 ⊢
 clear hW3 HB2 HQ2 HT2 HL2
 obtain⟨c0,c1,c2,c3,c4⟩:=HQ3.out.facts
 obtain⟨z0,z1,z2,z3,z4⟩:=HQ3.out.free
 have hlt3:=HQ3.out.lt
 obtain⟨_,_,_,d3,d4⟩:=HT3.out.facts
 have o0:W3.cell? ⟨w1.heap.size+1+1,3,none⟩ = some (.int .i64 14):=by simp[World.cell?,HO3.out]
 have hlo3:=(Array.getElem?_eq_some_iff.1 HO3.out).1
 have n0:W3.drew.cell? ⟨w1.heap.size+1+1,3,none⟩ = some (.int .i64 14):=o0
 have n1:W3.drew.cell? ⟨w1.heap.size,3,none⟩ = some (.int .i64 x.line):=d3
 have n2:W3.drew.cell? ⟨w1.heap.size,4,none⟩ = some (.int .i64 x.col):=d4
 have tk:∀ (g j:Nat) (v:Value),g≠w.heap.size→g < W3.heap.size→W3.cell? ⟨g,j,none⟩ = some v→((((((W3.setCell ⟨w.heap.size,0,none⟩ (.slice (some ⟨W3.heap.size,0,none⟩) 1 1)).setCell ⟨w.heap.size,1,none⟩ (.int .i64 (i+1))).setCell ⟨w.heap.size,2,none⟩ (.int .i64 0)).setCell ⟨w.heap.size,3,none⟩ (.int .i64 0)).setCell ⟨w.heap.size,4,none⟩ (.int .i64 0)).alloc (.cells #[.int .i64 14,.string ⟨#[]⟩,.int .i64 0,.string ⟨#[]⟩,.int .i64 0,.string ⟨#[]⟩,.string ⟨#[]⟩,.int .i64 x.line,.int .i64 x.col] 87)).drew.cell? ⟨g,j,none⟩ = some v:=by
  intro g j v hg hl hc
  exact((((Below.refl _ (((((W3.setCell ⟨w.heap.size,0,none⟩ (.slice (some ⟨W3.heap.size,0,none⟩) 1 1)).setCell ⟨w.heap.size,1,none⟩ (.int .i64 (i+1))).setCell ⟨w.heap.size,2,none⟩ (.int .i64 0)).setCell ⟨w.heap.size,3,none⟩ (.int .i64 0)).setCell ⟨w.heap.size,4,none⟩ (.int .i64 0))).alloc (Nat.le_refl _) (.cells #[.int .i64 14,.string ⟨#[]⟩,.int .i64 0,.string ⟨#[]⟩,.int .i64 0,.string ⟨#[]⟩,.string ⟨#[]⟩,.int .i64 x.line,.int .i64 x.col] 87)).drew).cell (p:=⟨g,j,none⟩) (by simpa only[World.size_setCell] using hl)).trans (cell_tok _ _ _ _ _ hg hc)
 have hltk:=HT3.out.lt
 have t0:=tk _ _ _ (by omega) hlo3 o0;have t1:=tk _ _ _ (by omega) hltk d3;have t2:=tk _ _ _ (by omega) hltk d4
 clear tk
 have fk:∀ (g j:Nat) (v:Value),g < W3.heap.size→W3.cell? ⟨g,j,none⟩ = some v→(W3.alloc (.cells #[.int .i64 14,.string ⟨#[]⟩,.int .i64 0,.string ⟨#[]⟩,.int .i64 0,.string ⟨#[]⟩,.string ⟨#[]⟩,.int .i64 x.line,.int .i64 x.col] 87)).drew.cell? ⟨g,j,none⟩ = some v:=by
  intro g j v hl hc
  exact((((Below.refl _ W3).alloc (Nat.le_refl _) (.cells #[.int .i64 14,.string ⟨#[]⟩,.int .i64 0,.string ⟨#[]⟩,.int .i64 0,.string ⟨#[]⟩,.string ⟨#[]⟩,.int .i64 x.line,.int .i64 x.col] 87)).drew).cell (p:=⟨g,j,none⟩) hl).trans hc
 have f0:=fk _ _ _ hlo3 o0;have f1:=fk _ _ _ hltk d3;have f2:=fk _ _ _ hltk d4
 clear fk
 have hq9:=HQ3.out.stored (.slice (some ⟨W3.heap.size,0,none⟩) 1 1) (i+1) 0 0 0
 have hb9:=below_tok HB3.out (Nat.le_refl _) (.slice (some ⟨W3.heap.size,0,none⟩) 1 1) (.int .i64 (i+1)) (.int .i64 0) (.int .i64 0) (.int .i64 0)
 have HE:=Lh (hq9.alloc (.cells #[.int .i64 14,.string ⟨#[]⟩,.int .i64 0,.string ⟨#[]⟩,.int .i64 0,.string ⟨#[]⟩,.string ⟨#[]⟩,.int .i64 x.line,.int .i64 x.col] 87)).drew.facts
 have HBE:=Lh (hb9.alloc hb9.size (.cells #[.int .i64 14,.string ⟨#[]⟩,.int .i64 0,.string ⟨#[]⟩,.int .i64 0,.string ⟨#[]⟩,.string ⟨#[]⟩,.int .i64 x.line,.int .i64 x.col] 87)).drew
 have hown:=World.ownsRow_lit (e:=87) (size:=9) (((((W3.setCell ⟨w.heap.size,0,none⟩ (.slice (some ⟨W3.heap.size,0,none⟩) 1 1)).setCell ⟨w.heap.size,1,none⟩ (.int .i64 (i+1))).setCell ⟨w.heap.size,2,none⟩ (.int .i64 0)).setCell ⟨w.heap.size,3,none⟩ (.int .i64 0)).setCell ⟨w.heap.size,4,none⟩ (.int .i64 0)) (#[.int .i64 14,.string ⟨#[]⟩,.int .i64 0,.string ⟨#[]⟩,.int .i64 0,.string ⟨#[]⟩,.string ⟨#[]⟩,.int .i64 x.line,.int .i64 x.col]) 1 (Nat.le_refl _) (by decide) rfl
 simp only[World.size_setCell] at hown
 have HOWN:=Lh (owns_mono hown.drew (show w.heap.size≤W3.heap.size by omega))
 clear hown hq9 hb9
 go_region_held3 (fun w'=>w'.cell? ⟨w1.heap.size+1+1,3,none⟩ = some (.int .i64 14)∧w'.cell? ⟨w1.heap.size,3,none⟩ = some (.int .i64 x.line)∧w'.cell? ⟨w1.heap.size,4,none⟩ = some (.int .i64 x.col))
  (first| (with_reducible exact⟨n0,n1,n2⟩)| (with_reducible exact⟨f0,f1,f2⟩)| (with_reducible exact⟨t0,t1,t2⟩)| (trace_state;fail))
  (fail)
 go_wp2
 obtain⟨e0,e1,e2,e3,e4⟩:=HE.out
 refine bodyPost_ret (v:=.agg #[.slice (some ⟨W3.heap.size,0,none⟩) 1 1,.int .i64 (i+1),.int .i64 0,.int .i64 0,.int .i64 0]) (by simp[results,Tryz.results144,go_sem,e0,e1,e2,e3,e4]) rfl ?_
 exact⟨W3.heap.size,1,rfl,HOWN.out,HBE.out⟩
theorem ratom_true {w:World} {B:Nat} {lv:Value} {T:List Tk} (h:TkIn w B lv T) (hB:B≤w.heap.size) (i:Int) (hlo:-9223372036854775808≤i) (hhi:i≤1000000) (prop:Bool)
 (k:Int) (hk:idxP trueL (tkAt T i).text=k) (hc:k=0∨k=1∨(k=2∧prop=true)∨(k=3∧prop=true)) :
 Calls Tryz.prog 144 #[lv,.int .i64 i,.bool prop] w (RPost w (.ok [item (if k=0 then 1 else if k=1 then 2 else if k=2 then 13 else 14) (tkAt T i)] (i+1))):=by
 rcases hc with rfl|rfl| ⟨rfl,rfl⟩ | ⟨rfl,rfl⟩
 · exact ratom_t0 h hB i hlo hhi prop hk
 · exact ratom_t1 h hB i hlo hhi prop hk
 · exact ratom_t2 h hB i hlo hhi hk
 · exact ratom_t3 h hB i hlo hhi hk
end Go.Proofs.YthlofmnmacpogaaGreatDoor
