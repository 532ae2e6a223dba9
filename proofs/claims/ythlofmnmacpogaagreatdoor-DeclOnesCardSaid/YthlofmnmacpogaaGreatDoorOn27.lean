/- A part of a proof: 'warder/warderlaw07.DeclOnes' returns true for every input and leaves its arguments as they were; no condition. The row lists package-level variables of Go's library with what they hold at the start; the card ties them to the program's text. -/
import Derived.Test.YthlofmnmacpogaaGreatDoorOn24
namespace Go.Proofs.YthlofmnmacpogaaGreatDoor
open Go.RowKit
def PrB (w:World) (b:Nat) (v:Value) (a e l c:Int):Prop:=w.heap[b]?=some (.cells #[v,.int .i64 a,.int .i64 e,.int .i64 l,.int .i64 c] 117 (0,0))
theorem PrB.facts {w:World} {b:Nat} {v:Value} {a e l c:Int} (h:PrB w b v a e l c) :
 w.cell? ⟨b,0,none⟩ = some v∧w.cell? ⟨b,1,none⟩ = some (.int .i64 a)∧w.cell? ⟨b,2,none⟩ = some (.int .i64 e)∧w.cell? ⟨b,3,none⟩ = some (.int .i64 l)∧w.cell? ⟨b,4,none⟩ = some (.int .i64 c):=by
 unfold PrB at h
 refine⟨?_,?_,?_,?_,?_⟩ <;> simp[World.cell?,h]
theorem PrB.free {w:World} {b:Nat} {v:Value} {a e l c:Int} (h:PrB w b v a e l c) :
 w.frozen? ⟨b,0,none⟩ = false∧w.frozen? ⟨b,1,none⟩ = false∧w.frozen? ⟨b,2,none⟩ = false∧w.frozen? ⟨b,3,none⟩ = false∧w.frozen? ⟨b,4,none⟩ = false:=by
 unfold PrB at h
 refine⟨?_,?_,?_,?_,?_⟩ <;> simp[World.frozen?,h]
theorem PrB.lt {w:World} {b:Nat} {v:Value} {a e l c:Int} (h:PrB w b v a e l c):b < w.heap.size:=(Array.getElem?_eq_some_iff.1 h).1
theorem PrB.below {w w':World} {b:Nat} {v:Value} {a e l c:Int} (h:PrB w b v a e l c) (hb:Below w.heap.size w w'):PrB w' b v a e l c:=(hb.block b h.lt).trans h
theorem PrB.alloc {w:World} {b:Nat} {v:Value} {a e l c:Int} (h:PrB w b v a e l c) (o:Obj):PrB (w.alloc o) b v a e l c:=(Below.heap_alloc _ _ _ h.lt).trans h
theorem PrB.drew {w:World} {b:Nat} {v:Value} {a e l c:Int} (h:PrB w b v a e l c):PrB w.drew b v a e l c:=h
theorem PrB.grown {w w':World} {b:Nat} {v:Value} {a e l c:Int} {row:Option Nat} (h:PrB w b v a e l c) (hg:w.grownBy w' row) (hne:row≠some b):PrB w' b v a e l c:=(hg.block b h.lt (Ne.symm hne)).trans h
theorem PrB.over {w:World} {b k j:Nat} {v:Value} {a e l c:Int} (h:PrB w b v a e l c) (hne:b≠k) (u:Value):PrB (w.setCell ⟨k,j,none⟩ u) b v a e l c:=(Below.heap_setCell _ _ _ _ (by show b≠k;exact hne)).trans h
theorem PrB.stored {w:World} {b:Nat} {v:Value} {a e l c:Int} (h:PrB w b v a e l c) (v2:Value) (a2 e2 l2 c2:Int) :
 PrB (((((w.setCell ⟨b,0,none⟩ v2).setCell ⟨b,1,none⟩ (.int .i64 a2)).setCell ⟨b,2,none⟩ (.int .i64 e2)).setCell ⟨b,3,none⟩ (.int .i64 l2)).setCell ⟨b,4,none⟩ (.int .i64 c2)) b v2 a2 e2 l2 c2:=
 heap_setCell_same _ b 4 _ _ (.int .i64 c2) (heap_setCell_same _ b 3 _ _ (.int .i64 l2) (heap_setCell_same _ b 2 _ _ (.int .i64 e2) (heap_setCell_same _ b 1 _ _ (.int .i64 a2) (heap_setCell_same w b 0 _ _ v2 h))))
theorem PrB.row {w:World} {b base n:Nat} {t:TypeId} {sz:Nat} {vr v:Value} {a e l c:Int} {xs:List Value} (h:PrB w b v a e l c) (hr:w.ownsRow base t sz vr n xs) (ht:117≠t) (v2:Value) (a2 e2 l2 c2:Int) :
 (((((w.setCell ⟨b,0,none⟩ v2).setCell ⟨b,1,none⟩ (.int .i64 a2)).setCell ⟨b,2,none⟩ (.int .i64 e2)).setCell ⟨b,3,none⟩ (.int .i64 l2)).setCell ⟨b,4,none⟩ (.int .i64 c2)).ownsRow base t sz vr n xs:=by
 have s0:=heap_setCell_same w b 0 _ _ v2 h
 have s1:=heap_setCell_same _ b 1 _ _ (.int .i64 a2) s0
 have s2:=heap_setCell_same _ b 2 _ _ (.int .i64 e2) s1
 have s3:=heap_setCell_same _ b 3 _ _ (.int .i64 l2) s2
 exact row_store (row_store (row_store (row_store (row_store hr h ht _ _) s0 ht _ _) s1 ht _ _) s2 ht _ _) s3 ht _ _
theorem row_news {w W:World} {base g n cap:Nat} {xs:List Value} (h:w.ownsRow base 87 9 (.slice (some ⟨g,0,none⟩) n cap) n xs) (hW:Below w.heap.size w W) :
 ∀ j u,xs[j]?=some u→W.cell? ((⟨g,0,none⟩:Addr).add j)=some u:=by
 intro j u hj
 have hadd: (⟨g,0,none⟩:Addr).add j= ⟨g,j,none⟩:=by unfold Addr.add;split <;> simp_all
 have hlt:=(h.lt g rfl).2
 have hjn:j < n * 9:=by rw[←h.1];exact(List.getElem?_eq_some_iff.1 hj).1
 rw[hadd,hW.cell (p:=⟨g,j,none⟩) hlt,h.cellAt j hjn,hj]
end Go.Proofs.YthlofmnmacpogaaGreatDoor
namespace Go.Proofs.YthlofmnmacpogaaGreatDoor
open Go.RowKit
theorem it_one (o:List It):∀ u ∈ itFlat o,u.oneCell'=true:=by
 intro u hu
 unfold itFlat at hu
 obtain⟨x,_,hx⟩:=List.mem_flatMap.1 hu
 simp only[itCells,List.mem_cons,List.not_mem_nil,or_false] at hx
 rcases hx with rfl|rfl|rfl|rfl|rfl|rfl|rfl|rfl|rfl <;> rfl
set_option maxRecDepth 100000 in
set_option maxHeartbeats 4000000 in
theorem also_two {w:World} {b1 b2 g1 cap1 g2 cap2 n1 n2:Nat} {o1 o2:List It} (h1:w.ownsRow b1 87 9 (.slice (some ⟨g1,0,none⟩) n1 cap1) n1 (itFlat o1)) (h2:w.ownsRow b2 87 9 (.slice (some ⟨g2,0,none⟩) n2 cap2) n2 (itFlat o2)) (hn1:0 < n1) (hn2:0 < n2) (hl1:n1≤1000000) (hl2:n2≤1000000)
 (a1 e1 l1 c1 a2 e2 l2 c2:Int) (x:It) :
 Calls Tryz.prog 107 #[.agg #[.slice (some ⟨g1,0,none⟩) n1 cap1,.int .i64 a1,.int .i64 e1,.int .i64 l1,.int .i64 c1],.agg #[.slice (some ⟨g2,0,none⟩) n2 cap2,.int .i64 a2,.int .i64 e2,.int .i64 l2,.int .i64 c2],.agg #[.int .i64 x.op,.string x.ln,.int .i64 x.lnum,.string x.rn,.int .i64 x.rnum,.string x.name,.string x.user,.int .i64 x.line,.int .i64 x.col]] w fun e w'=>∃ g cap,e=.returned (.agg #[.slice (some ⟨g,0,none⟩) (n1+n2+1) cap,.int .i64 a2,.int .i64 0,.int .i64 0,.int .i64 0])∧
  w'.ownsRow w.heap.size 87 9 (.slice (some ⟨g,0,none⟩) (n1+n2+1) cap) (n1+n2+1) (itFlat (o1 ++o2 ++ [x]))∧Below w.heap.size w w':=by
 have hb4:Below w.heap.size w ((((w.alloc (.cells #[.slice (some ⟨g1,0,none⟩) n1 cap1,.int .i64 a1,.int .i64 e1,.int .i64 l1,.int .i64 c1] 117)).alloc (.cells #[.slice (some ⟨g2,0,none⟩) n2 cap2,.int .i64 a2,.int .i64 e2,.int .i64 l2,.int .i64 c2] 117)).alloc (.cells #[.int .i64 x.op,.string x.ln,.int .i64 x.lnum,.string x.rn,.int .i64 x.rnum,.string x.name,.string x.user,.int .i64 x.line,.int .i64 x.col] 87)).alloc (.cells #[.slice none 0 0,.int .i64 0,.int .i64 0,.int .i64 0,.int .i64 0] 117)):=by
  exact((((Below.refl _ w).alloc (Nat.le_refl _) _).alloc (by simp) _).alloc (by simp;omega) _).alloc (by simp;omega) _
 have q0:PrB ((((w.alloc (.cells #[.slice (some ⟨g1,0,none⟩) n1 cap1,.int .i64 a1,.int .i64 e1,.int .i64 l1,.int .i64 c1] 117)).alloc (.cells #[.slice (some ⟨g2,0,none⟩) n2 cap2,.int .i64 a2,.int .i64 e2,.int .i64 l2,.int .i64 c2] 117)).alloc (.cells #[.int .i64 x.op,.string x.ln,.int .i64 x.lnum,.string x.rn,.int .i64 x.rnum,.string x.name,.string x.user,.int .i64 x.line,.int .i64 x.col] 87)).alloc (.cells #[.slice none 0 0,.int .i64 0,.int .i64 0,.int .i64 0,.int .i64 0] 117)) w.heap.size (.slice (some ⟨g1,0,none⟩) n1 cap1) a1 e1 l1 c1:=(((PrB.alloc (heap_alloc_new w _) _).alloc _).alloc _)
 have q1:PrB ((((w.alloc (.cells #[.slice (some ⟨g1,0,none⟩) n1 cap1,.int .i64 a1,.int .i64 e1,.int .i64 l1,.int .i64 c1] 117)).alloc (.cells #[.slice (some ⟨g2,0,none⟩) n2 cap2,.int .i64 a2,.int .i64 e2,.int .i64 l2,.int .i64 c2] 117)).alloc (.cells #[.int .i64 x.op,.string x.ln,.int .i64 x.lnum,.string x.rn,.int .i64 x.rnum,.string x.name,.string x.user,.int .i64 x.line,.int .i64 x.col] 87)).alloc (.cells #[.slice none 0 0,.int .i64 0,.int .i64 0,.int .i64 0,.int .i64 0] 117)) (w.heap.size+1) (.slice (some ⟨g2,0,none⟩) n2 cap2) a2 e2 l2 c2:=((PrB.alloc (heap_at_size _ _ _ (by simp)) _).alloc _)
 have q2:ItB ((((w.alloc (.cells #[.slice (some ⟨g1,0,none⟩) n1 cap1,.int .i64 a1,.int .i64 e1,.int .i64 l1,.int .i64 c1] 117)).alloc (.cells #[.slice (some ⟨g2,0,none⟩) n2 cap2,.int .i64 a2,.int .i64 e2,.int .i64 l2,.int .i64 c2] 117)).alloc (.cells #[.int .i64 x.op,.string x.ln,.int .i64 x.lnum,.string x.rn,.int .i64 x.rnum,.string x.name,.string x.user,.int .i64 x.line,.int .i64 x.col] 87)).alloc (.cells #[.slice none 0 0,.int .i64 0,.int .i64 0,.int .i64 0,.int .i64 0] 117)) (w.heap.size+2) x:=ItB.alloc (heap_at_size _ _ _ (by simp)) _
 have q3:PrB ((((w.alloc (.cells #[.slice (some ⟨g1,0,none⟩) n1 cap1,.int .i64 a1,.int .i64 e1,.int .i64 l1,.int .i64 c1] 117)).alloc (.cells #[.slice (some ⟨g2,0,none⟩) n2 cap2,.int .i64 a2,.int .i64 e2,.int .i64 l2,.int .i64 c2] 117)).alloc (.cells #[.int .i64 x.op,.string x.ln,.int .i64 x.lnum,.string x.rn,.int .i64 x.rnum,.string x.name,.string x.user,.int .i64 x.line,.int .i64 x.col] 87)).alloc (.cells #[.slice none 0 0,.int .i64 0,.int .i64 0,.int .i64 0,.int .i64 0] 117)) (w.heap.size+3) (.slice none 0 0) 0 0 0 0:=heap_at_size _ _ _ (by simp)
 have hs4: ((((w.alloc (.cells #[.slice (some ⟨g1,0,none⟩) n1 cap1,.int .i64 a1,.int .i64 e1,.int .i64 l1,.int .i64 c1] 117)).alloc (.cells #[.slice (some ⟨g2,0,none⟩) n2 cap2,.int .i64 a2,.int .i64 e2,.int .i64 l2,.int .i64 c2] 117)).alloc (.cells #[.int .i64 x.op,.string x.ln,.int .i64 x.lnum,.string x.rn,.int .i64 x.rnum,.string x.name,.string x.user,.int .i64 x.line,.int .i64 x.col] 87)).alloc (.cells #[.slice none 0 0,.int .i64 0,.int .i64 0,.int .i64 0,.int .i64 0] 117)).heap.size=w.heap.size+4:=by simp
 have H1:=Lib.hid h1;have H2:=Lib.hid h2
 have hx1: (itFlat o1).length=n1 * 9:=h1.1
 have hx2: (itFlat o2).length=n2 * 9:=h2.1
 have hg1:g1 < w.heap.size:=by have:=(h1.lt g1 rfl).2;omega
 have hg2:g2 < w.heap.size:=by have:=(h2.lt g2 rfl).2;omega
 have HX1:=Lib.hid hx1;have HX2:=Lib.hid hx2
 have HB4:=Lib.hid hb4;have Q0:=Lib.hid q0;have Q1:=Lib.hid q1;have Q2:=Lib.hid q2;have Q3:=Lib.hid q3;have HS4:=Lib.hid hs4
 obtain⟨i0,hi0,hz0,hz1,hz2⟩:=info_parts info_item
 have HIP:=Lib.hid (And.intro hi0 (And.intro hz0 (And.intro hz1 hz2)))
 clear h1 h2 hx1 hx2 hb4 q0 q1 q2 q3 hs4 hi0 hz0 hz1 hz2
 go_enter Tryz.func107,Tryz.ntmps107
 go_wp2
 obtain⟨W4,hW4⟩:∃ W,((((w.alloc (.cells #[.slice (some ⟨g1,0,none⟩) n1 cap1,.int .i64 a1,.int .i64 e1,.int .i64 l1,.int .i64 c1] 117)).alloc (.cells #[.slice (some ⟨g2,0,none⟩) n2 cap2,.int .i64 a2,.int .i64 e2,.int .i64 l2,.int .i64 c2] 117)).alloc (.cells #[.int .i64 x.op,.string x.ln,.int .i64 x.lnum,.string x.rn,.int .i64 x.rnum,.string x.name,.string x.user,.int .i64 x.line,.int .i64 x.col] 87)).alloc (.cells #[.slice none 0 0,.int .i64 0,.int .i64 0,.int .i64 0,.int .i64 0] 117))=W:=⟨_,rfl⟩
 rw[hW4] at HB4 Q0 Q1 Q2 Q3 HS4 ⊢
 clear hW4
 obtain⟨s0,_,_,_,_⟩:=Q0.out.facts
 obtain⟨s1,s2,_,_,_⟩:=Q1.out.facts
 have hB5:Hid (Below w.heap.size w (W4.alloc (.cells #[] 87)).drew):=(HB4.out.alloc HB4.out.size _).drew
 have hS5:Hid ((W4.alloc (.cells #[] 87)).drew.heap.size=W4.heap.size+1):=by unfold Hid;show(W4.alloc _).heap.size=_;rw[World.size_alloc]
 have hs4a:w.heap.size+4≤W4.heap.size:=by have:=HS4.out;omega
 have OWN0:Hid ((W4.alloc (.cells #[] 87)).drew.ownsRow w.heap.size 87 9 (.slice (some ⟨W4.heap.size,0,none⟩) 0 0) 0 []):=by
  have:=World.ownsRow_lit (e:=87) (size:=9) W4 #[] 0 (Nat.le_refl _) (Nat.zero_le _) (by simp)
  exact owns_mono this.drew (by have:=HS4.out;omega)
 first
 | (go_region_held3 (fun w'=>w'.cell? ⟨w.heap.size,0,none⟩ = some (.slice (some ⟨g1,0,none⟩) n1 cap1)∧w'.cell? ⟨w.heap.size+1,0,none⟩ = some (.slice (some ⟨g2,0,none⟩) n2 cap2))
     (first|go_keep| (refine⟨?_,?_⟩ <;> (first|assumption|go_keep)))
     (first
       | (refine step_append_lies _ (by rfl) _ _ _ (by rfl) w.heap.size 87 i0 _ 9 104 Tryz.underlying35 HIP.out.1 HIP.out.2.1 HIP.out.2.2.1 HIP.out.2.2.2 rfl (by omega) (.slice (some ⟨W4.heap.size,0,none⟩) 0 0) 0 [] (by rfl) OWN0.out ⟨g1,0,none⟩ n1 cap1 (itFlat o1) (by rfl) HX1.out (row_news H1.out hB5.out) (it_one o1) hn1 (by unfold maxLen;omega) (by omega) (by rw[hS5.out];omega) (W4.heap.size+1) hS5.out ?_
          intro g3 cap3 w5 hown3 hgrow hat hlt3
          have hb5:Below w.heap.size w w5:=hB5.out.trans (below_of_grown hgrow (fun k e=>(OWN0.out.lt k e).1) (by rw[hS5.out];omega))
          have k0:=(Q0.out.alloc _).drew.grown hgrow (by simp[Value.ownBlock];omega)
          have k1:=(Q1.out.alloc _).drew.grown hgrow (by simp[Value.ownBlock];omega)
          have k2:=(Q2.out.alloc _).drew.grown hgrow (by simp[Value.ownBlock];omega)
          have k3:=(Q3.out.alloc _).drew.grown hgrow (by simp[Value.ownBlock];omega)
          obtain⟨s3,_,_,_,_⟩:=k0.facts
          obtain⟨s4,s5,_,_,_⟩:=k1.facts
          have hgs3:w.heap.size+4≤g3:=by rcases hat with e|e;(simp[Value.ownBlock] at e;omega);omega
          have HO3:=Lib.hid hown3;have HB5':=Lib.hid hb5;have K1:=Lib.hid k1;have K2:=Lib.hid k2;have K3:=Lib.hid k3
          clear hown3 hgrow hat hb5 k0 k1 k2 k3)
       | (refine step_append_lies _ (by rfl) _ _ _ (by rfl) w.heap.size 87 i0 _ 9 104 Tryz.underlying35 HIP.out.1 HIP.out.2.1 HIP.out.2.2.1 HIP.out.2.2.2 rfl (by omega) (.slice (some ⟨g3,0,none⟩) (0+n1) cap3) (0+n1) ([] ++itFlat o1) (by rfl) HO3.out ⟨g2,0,none⟩ n2 cap2 (itFlat o2) (by rfl) HX2.out (row_news H2.out HB5'.out) (it_one o2) hn2 (by unfold maxLen;omega) (by omega) HB5'.out.size w5.heap.size rfl ?_
          intro g4 cap4 w6 hown4 hgrow4 hat4 hlt4
          have hb6:Below w.heap.size w w6:=HB5'.out.trans (below_of_grown hgrow4 (fun k e=>(HO3.out.lt k e).1) HB5'.out.size)
          have hgs4:w.heap.size+4≤g4:=by rcases hat4 with e|e;(simp[Value.ownBlock] at e;omega);omega
          have k1:=K1.out.grown hgrow4 (by simp[Value.ownBlock];omega)
          have k2:=K2.out.grown hgrow4 (by simp[Value.ownBlock];omega)
          have k3:=K3.out.grown hgrow4 (by simp[Value.ownBlock];omega)
          have k0:w6.cell? ⟨w.heap.size,0,none⟩ = some (.slice (some ⟨g1,0,none⟩) n1 cap1):=by
           refine(World.cell?_of_block (a:=⟨w.heap.size,0,none⟩) (hgrow4.block _ (World.block_lt_of_cell? _ _ s3) ?_)).trans s3
           simp[Value.ownBlock];omega
          obtain⟨s6,s7,_,_,_⟩:=k1.facts
          have HO4:=Lib.hid hown4;have HB6:=Lib.hid hb6;have L1:=Lib.hid k1;have L2:=Lib.hid k2;have L3:=Lib.hid k3
          clear hown4 hgrow4 hat4 hb6 k1 k2 k3)))
 | fail
 all_goals
  obtain⟨r0,r1,r2,r3,r4,r5,r6,r7,r8⟩:=L2.out.facts
  obtain⟨r9,r10,r11,r12,r13⟩:=L3.out.facts
  obtain⟨y9,y10,y11,y12,y13⟩:=L3.out.free
  have hB7:Hid (Below w.heap.size w (w6.alloc (.cells #[.int .i64 x.op,.string x.ln,.int .i64 x.lnum,.string x.rn,.int .i64 x.rnum,.string x.name,.string x.user,.int .i64 x.line,.int .i64 x.col] 87)).drew):=(HB6.out.alloc HB6.out.size _).drew
  have hS7:Hid ((w6.alloc (.cells #[.int .i64 x.op,.string x.ln,.int .i64 x.lnum,.string x.rn,.int .i64 x.rnum,.string x.name,.string x.user,.int .i64 x.line,.int .i64 x.col] 87)).drew.heap.size=w6.heap.size+1):=by unfold Hid;show(w6.alloc _).heap.size=_;rw[World.size_alloc]
  have OWN4:Hid ((w6.alloc (.cells #[.int .i64 x.op,.string x.ln,.int .i64 x.lnum,.string x.rn,.int .i64 x.rnum,.string x.name,.string x.user,.int .i64 x.line,.int .i64 x.col] 87)).drew.ownsRow w.heap.size 87 9 (.slice (some ⟨g4,0,none⟩) (n1+n2) cap4) (n1+n2) ([] ++itFlat o1 ++itFlat o2)):=by
   have:=HO4.out
   rw[Nat.zero_add] at this
   exact(this.alloc _).drew
  have hsz6:=HB6.out.size
  clear k0
  go_wp2
  first
  | (go_region_held3 (fun w'=>w'.cell? ⟨w.heap.size+2,0,none⟩ = some (.int .i64 x.op)∧w'.cell? ⟨w.heap.size+2,1,none⟩ = some (.string x.ln)∧w'.cell? ⟨w.heap.size+2,2,none⟩ = some (.int .i64 x.lnum)∧w'.cell? ⟨w.heap.size+2,3,none⟩ = some (.string x.rn)∧w'.cell? ⟨w.heap.size+2,4,none⟩ = some (.int .i64 x.rnum)∧w'.cell? ⟨w.heap.size+2,5,none⟩ = some (.string x.name)∧w'.cell? ⟨w.heap.size+2,6,none⟩ = some (.string x.user)∧w'.cell? ⟨w.heap.size+2,7,none⟩ = some (.int .i64 x.line)∧w'.cell? ⟨w.heap.size+2,8,none⟩ = some (.int .i64 x.col)∧w'.cell? ⟨w.heap.size+1,1,none⟩ = some (.int .i64 a2))
      (first| (with_reducible exact⟨t2,t3,t4,t5,t6,t7,t8,t9,t10,t1⟩)|go_keep)
      (first
        | (refine step_append_lies _ (by rfl) _ _ _ (by rfl) w.heap.size 87 i0 _ 9 104 Tryz.underlying35 HIP.out.1 HIP.out.2.1 HIP.out.2.2.1 HIP.out.2.2.2 rfl (by omega) (.slice (some ⟨g4,0,none⟩) (n1+n2) cap4) (n1+n2) ([] ++itFlat o1 ++itFlat o2) (by rfl) OWN4.out ⟨w6.heap.size,0,none⟩ 1 1 [.int .i64 x.op,.string x.ln,.int .i64 x.lnum,.string x.rn,.int .i64 x.rnum,.string x.name,.string x.user,.int .i64 x.line,.int .i64 x.col] (by rfl) (by rfl) (World.news_of_block (cs:=#[.int .i64 x.op,.string x.ln,.int .i64 x.lnum,.string x.rn,.int .i64 x.rnum,.string x.name,.string x.user,.int .i64 x.line,.int .i64 x.col]) (t:=87) (fr:=(0,0)) (heap_alloc_new w6 _)) (by simp[Value.oneCell']) (by omega) (by unfold maxLen;omega) (by omega) (by rw[hS7.out];omega) (w6.heap.size+1) hS7.out ?_
           intro g5 cap5 w8 hown5 hgrow5 hat5 hlt5
           have hb8:Below w.heap.size w w8:=hB7.out.trans (below_of_grown hgrow5 (fun k e=>(OWN4.out.lt k e).1) (by rw[hS7.out];omega))
           have m1:=(L1.out.alloc _).drew.grown hgrow5 (by simp[Value.ownBlock];omega)
           have m2:=(L2.out.alloc _).drew.grown hgrow5 (by simp[Value.ownBlock];omega)
           have m3:=(L3.out.alloc _).drew.grown hgrow5 (by simp[Value.ownBlock];omega)
           obtain⟨_,p1,_,_,_⟩:=m1.facts
           obtain⟨p2,p3,p4,p5,p6,p7,p8,p9,p10⟩:=m2.facts
           obtain⟨p11,p12,p13,p14,p15⟩:=m3.facts
           obtain⟨p16,p17,p18,p19,p20⟩:=m3.free
           have tk:=fun(g j:Nat) (v:Value) (hg:g≠w.heap.size+3) (h:w8.cell? ⟨g,j,none⟩ = some v)=>cell_tok (k:=w.heap.size+3) (.slice (some ⟨g5,0,none⟩) (n1+n2+1) cap5) (.int .i64 a2) (.int .i64 0) (.int .i64 0) (.int .i64 0) hg h
           have t1:=tk _ _ _ (by omega) p1;have t2:=tk _ _ _ (by omega) p2;have t3:=tk _ _ _ (by omega) p3;have t4:=tk _ _ _ (by omega) p4;have t5:=tk _ _ _ (by omega) p5;have t6:=tk _ _ _ (by omega) p6;have t7:=tk _ _ _ (by omega) p7;have t8:=tk _ _ _ (by omega) p8;have t9:=tk _ _ _ (by omega) p9;have t10:=tk _ _ _ (by omega) p10
           clear tk
           have HO5:=Lib.hid hown5;have HB8:=Lib.hid hb8;have M3:=Lib.hid m3
           clear hown5 hgrow5 hat5 hb8 m1 m2 m3)))
  | fail
  all_goals
   have hE:=Lib.hid (M3.out.stored (.slice (some ⟨g5,0,none⟩) (n1+n2+1) cap5) a2 0 0 0).facts
   have hROW:=Lib.hid (PrB.row M3.out HO5.out (by decide) (.slice (some ⟨g5,0,none⟩) (n1+n2+1) cap5) a2 0 0 0)
   have hBEL:=Lib.hid (below_tok HB8.out (show w.heap.size≤w.heap.size+3 by omega) (.slice (some ⟨g5,0,none⟩) (n1+n2+1) cap5) (.int .i64 a2) (.int .i64 0) (.int .i64 0) (.int .i64 0))
   go_wp2
   obtain⟨e0,e1,e2,e3,e4⟩:=hE.out
   refine bodyPost_ret (v:=.agg #[.slice (some ⟨g5,0,none⟩) (n1+n2+1) cap5,.int .i64 a2,.int .i64 0,.int .i64 0,.int .i64 0]) (by simp[results,Tryz.results107,go_sem,e0,e1,e2,e3,e4]) rfl ⟨g5,cap5,rfl,?_,hBEL.out⟩
   have hfl:itFlat (o1 ++o2 ++ [x])= [] ++itFlat o1 ++itFlat o2 ++ [.int .i64 x.op,.string x.ln,.int .i64 x.lnum,.string x.rn,.int .i64 x.rnum,.string x.name,.string x.user,.int .i64 x.line,.int .i64 x.col]:=by simp[itFlat,itCells]
   rw[hfl]
   exact hROW.out
end Go.Proofs.YthlofmnmacpogaaGreatDoor
namespace Go.Proofs.YthlofmnmacpogaaGreatDoor
open Go.RowKit
def compL:List ByteArray:=[⟨#[60]⟩,⟨#[60,61]⟩,⟨#[62]⟩,⟨#[62,61]⟩,⟨#[61]⟩,⟨#[33,61]⟩]
def trueL:List ByteArray:=[wTrue,wFalse,wComplete,wStuck]
def openL:List ByteArray:=[wOpen,wDone,wCan,wDid]
def notL:List ByteArray:=[wNot,⟨#[65,88]⟩,⟨#[69,88]⟩,⟨#[65,70]⟩,⟨#[69,70]⟩,⟨#[65,71]⟩,⟨#[69,71]⟩,wA,wE]
theorem comp_idx (T:List Tk) (i:Int) :
 (compN T i=0∧(idxP compL (tkAt T i).text < 0∨(tkAt T i).kind≠4))∨
 ((tkAt T i).kind=4∧0≤idxP compL (tkAt T i).text∧compN T i=3+idxP compL (tkAt T i).text∧idxP compL (tkAt T i).text < 6):=by
 unfold compN
 obtain⟨x,hx⟩:∃ x,tkAt T i=x:=⟨_,rfl⟩
 rw[hx]
 by_cases hk:x.kind=4
 · rw[if_neg (by omega)]
   by_cases h0:x.text= ⟨#[60]⟩
   · rw[h0];right;refine⟨hk,?_⟩;decide
   by_cases h1:x.text= ⟨#[60,61]⟩
   · rw[h1];right;refine⟨hk,?_⟩;decide
   by_cases h2:x.text= ⟨#[62]⟩
   · rw[h2];right;refine⟨hk,?_⟩;decide
   by_cases h3:x.text= ⟨#[62,61]⟩
   · rw[h3];right;refine⟨hk,?_⟩;decide
   by_cases h4:x.text= ⟨#[61]⟩
   · rw[h4];right;refine⟨hk,?_⟩;decide
   by_cases h5:x.text= ⟨#[33,61]⟩
   · rw[h5];right;refine⟨hk,?_⟩;decide
   left
   rw[if_neg h0,if_neg h1,if_neg h2,if_neg h3,if_neg h4,if_neg h5]
   refine⟨rfl,.inl ?_⟩
   simp[idxP,compL,idxN,Ne.symm h0,Ne.symm h1,Ne.symm h2,Ne.symm h3,Ne.symm h4,Ne.symm h5]
 · left;rw[if_pos hk];exact⟨rfl,.inr hk⟩
def ratomP (T:List Tk) (prop:Bool) (i:Int):PR:=
 let k:=idxP trueL (tkAt T i).text
 if 0≤k∧(k < 2∨prop=true) then .ok [item (if k=0 then 1 else if k=1 then 2 else if k=2 then 13 else 14) (tkAt T i)] (i+1)
 else
  let j:=idxP openL (tkAt T i).text
  if j < 0∨(1 < j∧prop=false) then badP T i 4
  else if j < 3 then namedP T i (9+j) else didP T i
theorem ratom_is (T:List Tk) (prop:Bool) (i:Int):ratomP T prop i=atomP T prop i:=by
 unfold ratomP atomP
 obtain⟨x,hx⟩:∃ x,tkAt T i=x:=⟨_,rfl⟩
 obtain⟨t,ht⟩:∃ t,x.text=t:=⟨_,rfl⟩
 rw[hx,ht]
 by_cases h0:t=wOpen
 · subst h0;rw[show idxP trueL wOpen= -1 by decide,show idxP openL wOpen=0 by decide];simp
 by_cases h1:t=wDone
 · subst h1;rw[show idxP trueL wDone= -1 by decide,show idxP openL wDone=1 by decide];simp[h0]
 by_cases h2:t=wTrue
 · subst h2;rw[show idxP trueL wTrue=0 by decide];simp[h0,h1]
 by_cases h3:t=wFalse
 · subst h3;rw[show idxP trueL wFalse=1 by decide];simp[h0,h1,h2]
 by_cases h4:t=wCan
 · subst h4;rw[show idxP trueL wCan= -1 by decide,show idxP openL wCan=2 by decide];cases prop <;> simp[h0,h1,h2,h3]
 by_cases h5:t=wDid
 · subst h5;rw[show idxP trueL wDid= -1 by decide,show idxP openL wDid=3 by decide];cases prop <;> simp[h0,h1,h2,h3,h4]
 by_cases h6:t=wComplete
 · subst h6;rw[show idxP trueL wComplete=2 by decide,show idxP openL wComplete= -1 by decide];cases prop <;> simp[h0,h1,h2,h3,h4,h5]
 by_cases h7:t=wStuck
 · subst h7;rw[show idxP trueL wStuck=3 by decide,show idxP openL wStuck= -1 by decide];cases prop <;> simp[h0,h1,h2,h3,h4,h5,h6]
 have e1:idxP trueL t= -1:=by simp[idxP,trueL,idxN,Ne.symm h2,Ne.symm h3,Ne.symm h6,Ne.symm h7]
 have e2:idxP openL t= -1:=by simp[idxP,openL,idxN,Ne.symm h0,Ne.symm h1,Ne.symm h4,Ne.symm h5]
 rw[e1,e2]
 cases prop <;> simp[h0,h1,h2,h3,h4,h5,h6,h7]
def rsignP (T:List Tk) (prop:Bool) (sg form:Int→PR) (i:Int):PR:=
 if isTk T i 4 sOpen then(form (i+1)).also fun o a=>needP T a 4 sClose fun b=>.ok o b
 else if(tkAt T i).kind≠2 then compP T i
 else
  let k:=idxP notL (tkAt T i).text
  if k < 0 then atomP T prop i
  else if 0 < k∧prop=false then badP T i 4
  else if 6 < k then untilP T form (18+k) i
  else(sg (i+1)).also fun o a=>.ok (o ++ [item (if k=0 then 15 else 18+k) (tkAt T i)]) a
theorem rsign_is (T:List Tk) (prop:Bool) (sg form:Int→PR) (i:Int):rsignP T prop sg form i=signP T prop sg form i:=by
 unfold rsignP signP
 by_cases ho:isTk T i 4 sOpen=true
 · rw[if_pos ho,if_pos ho]
 rw[if_neg ho,if_neg ho]
 by_cases hk: (tkAt T i).kind≠2
 · rw[if_pos hk,if_pos hk]
 rw[if_neg hk,if_neg hk]
 obtain⟨x,hx⟩:∃ x,tkAt T i=x:=⟨_,rfl⟩
 obtain⟨t,ht⟩:∃ t,x.text=t:=⟨_,rfl⟩
 rw[hx,ht]
 by_cases h0:t=wNot
 · subst h0;rw[show idxP notL wNot=0 by decide];simp
 by_cases h1:t= ⟨#[65,88]⟩
 · subst h1;rw[show idxP notL ⟨#[65,88]⟩ = 1 by decide,show tempN ⟨#[65,88]⟩ = 19 by decide,if_neg h0,if_neg (show ¬(⟨#[65,88]⟩:ByteArray)=wA by decide),if_neg (show ¬(⟨#[65,88]⟩:ByteArray)=wE by decide)];cases prop <;> simp
 by_cases h2:t= ⟨#[69,88]⟩
 · subst h2;rw[show idxP notL ⟨#[69,88]⟩ = 2 by decide,show tempN ⟨#[69,88]⟩ = 20 by decide,if_neg h0,if_neg (show ¬(⟨#[69,88]⟩:ByteArray)=wA by decide),if_neg (show ¬(⟨#[69,88]⟩:ByteArray)=wE by decide)];cases prop <;> simp
 by_cases h3:t= ⟨#[65,70]⟩
 · subst h3;rw[show idxP notL ⟨#[65,70]⟩ = 3 by decide,show tempN ⟨#[65,70]⟩ = 21 by decide,if_neg h0,if_neg (show ¬(⟨#[65,70]⟩:ByteArray)=wA by decide),if_neg (show ¬(⟨#[65,70]⟩:ByteArray)=wE by decide)];cases prop <;> simp
 by_cases h4:t= ⟨#[69,70]⟩
 · subst h4;rw[show idxP notL ⟨#[69,70]⟩ = 4 by decide,show tempN ⟨#[69,70]⟩ = 22 by decide,if_neg h0,if_neg (show ¬(⟨#[69,70]⟩:ByteArray)=wA by decide),if_neg (show ¬(⟨#[69,70]⟩:ByteArray)=wE by decide)];cases prop <;> simp
 by_cases h5:t= ⟨#[65,71]⟩
 · subst h5;rw[show idxP notL ⟨#[65,71]⟩ = 5 by decide,show tempN ⟨#[65,71]⟩ = 23 by decide,if_neg h0,if_neg (show ¬(⟨#[65,71]⟩:ByteArray)=wA by decide),if_neg (show ¬(⟨#[65,71]⟩:ByteArray)=wE by decide)];cases prop <;> simp
 by_cases h6:t= ⟨#[69,71]⟩
 · subst h6;rw[show idxP notL ⟨#[69,71]⟩ = 6 by decide,show tempN ⟨#[69,71]⟩ = 24 by decide,if_neg h0,if_neg (show ¬(⟨#[69,71]⟩:ByteArray)=wA by decide),if_neg (show ¬(⟨#[69,71]⟩:ByteArray)=wE by decide)];cases prop <;> simp
 by_cases h7:t=wA
 · subst h7;rw[show idxP notL wA=7 by decide,if_neg h0];cases prop <;> simp
 by_cases h8:t=wE
 · subst h8;rw[show idxP notL wE=8 by decide,if_neg h0,if_neg (show ¬wE=wA by decide)];cases prop <;> simp
 have e1:idxP notL t= -1:=by simp[idxP,notL,idxN,Ne.symm h0,Ne.symm h1,Ne.symm h2,Ne.symm h3,Ne.symm h4,Ne.symm h5,Ne.symm h6,Ne.symm h7,Ne.symm h8]
 have e2:tempN t=0:=by simp[tempN,h1,h2,h3,h4,h5,h6]
 rw[e1,e2,if_neg h0,if_neg h7,if_neg h8]
 cases prop <;> simp[h7,h8]
end Go.Proofs.YthlofmnmacpogaaGreatDoor
