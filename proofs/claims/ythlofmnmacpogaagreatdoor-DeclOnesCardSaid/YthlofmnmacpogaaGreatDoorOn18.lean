/- A part of a proof: 'warder/warderlaw07.DeclOnes' returns true for every input and leaves its arguments as they were; no condition. The row lists package-level variables of Go's library with what they hold at the start; the card ties them to the program's text. -/
import Derived.Test.YthlofmnmacpogaaGreatDoorOn17
import Derived.Deep.RegionLaw
import Derived.BigRegion
import Derived.Test.YthlofmnmacpogaaGreatDoorOn01
import Derived.Lib.Strings
import Derived.Lib.IndexMore
namespace Go.Proofs.YthlofmnmacpogaaGreatDoor
open Go.RowKit
theorem info_token: (Tryz.prog.info? 48).map (fun i=>(i.zero,i.size,i.bytes))=some (some (.agg #[.int .i64 0,.string ⟨#[]⟩,.int .i64 0,.int .i64 0,.int .i64 0]),5,48):=by kernel_rfl
theorem owns_ne_block {w:World} {base:Nat} {e t:TypeId} {sz:Nat} {v:Value} {n k:Nat} {xs:List Value} {cs:Array Value} {fr:Nat × Nat} (h:w.ownsRow base e sz v n xs) (hk:w.heap[k]?=some (.cells cs t fr)) (hne:t≠e):v.ownBlock≠some k:=by
 rcases h.2 with⟨rfl,_⟩ | ⟨g,cap,cur,rfl,_,hg,_⟩
 · simp[Value.ownBlock]
 · intro hgk
   simp[Value.ownBlock] at hgk
   subst hgk
   rw[hk] at hg
   simp at hg
   exact hne hg.2.1
theorem heap_far2 {w w3:World} {o1 o2:Obj} {row:Option Nat} {b:Nat} (hg: (((w.alloc o1).drew.drew).alloc o2).grownBy w3 row) (hb:b < w.heap.size) (hne:row≠some b):w3.heap[b]?=w.heap[b]?:=by
 rw[hg.block b (by simp;omega) (Ne.symm hne)]
 exact(Below.heap_alloc _ _ _ (by show b < (w.alloc o1).heap.size;simp;omega)).trans (Below.heap_alloc _ _ _ hb)
theorem cell_far2 {w w3:World} {o1 o2:Obj} {row:Option Nat} {b j:Nat} {v:Value} (hg: (((w.alloc o1).drew.drew).alloc o2).grownBy w3 row) (hb:b < w.heap.size) (hne:row≠some b) (h:w.cell? ⟨b,j,none⟩ = some v):w3.cell? ⟨b,j,none⟩ = some v:=
 (World.cell?_of_block (a:=⟨b,j,none⟩) (heap_far2 hg hb hne)).trans h
theorem frozen_far2 {w w3:World} {o1 o2:Obj} {row:Option Nat} {b j:Nat} {v:Bool} (hg: (((w.alloc o1).drew.drew).alloc o2).grownBy w3 row) (hb:b < w.heap.size) (hne:row≠some b) (h:w.frozen? ⟨b,j,none⟩ = v):w3.frozen? ⟨b,j,none⟩ = v:=
 (World.frozen?_of_block (a:=⟨b,j,none⟩) (heap_far2 hg hb hne)).trans h
theorem heap_new2 {w w3:World} {o1 o2:Obj} {row:Option Nat} (hg: (((w.alloc o1).drew.drew).alloc o2).grownBy w3 row) (hne:row≠some w.heap.size):w3.heap[w.heap.size]?=some o1:=by
 rw[hg.block w.heap.size (by simp;omega) (Ne.symm hne)]
 exact(Below.heap_alloc _ _ _ (by show w.heap.size < (w.alloc o1).heap.size;simp)).trans (heap_alloc_new w o1)
theorem cell_new2 {w w3:World} {cs:Array Value} {t:TypeId} {o2:Obj} {row:Option Nat} {j:Nat} (hg: (((w.alloc (.cells cs t)).drew.drew).alloc o2).grownBy w3 row) (hne:row≠some w.heap.size):w3.cell? ⟨w.heap.size,j,none⟩ = cs[j]?:=
 cell_of_row _ _ _ _ _ _ (heap_new2 hg hne)
theorem owns_ne_row {w:World} {b1 b2:Nat} {e1 e2:TypeId} {s1 s2:Nat} {v1:Value} {n1 n2 g cap:Nat} {xs1 xs2:List Value} (h1:w.ownsRow b1 e1 s1 v1 n1 xs1) (h2:w.ownsRow b2 e2 s2 (.slice (some ⟨g,0,none⟩) n2 cap) n2 xs2) (hne:e2≠e1):v1.ownBlock≠some g:=by
 rcases h2.2 with⟨h,_⟩ | ⟨g',cap',cur,hv,_,hg,_⟩
 · simp at h
 · simp only[Value.slice.injEq,Option.some.injEq,Addr.mk.injEq,true_and,and_true] at hv
   obtain⟨rfl,_⟩:=hv
   exact owns_ne_block h1 hg hne
structure Took (w w':World) (B b:Nat) (s:ByteArray) (L:List Rn) (lv:Value) (i:Nat) (ov:Value) (T:List Tk):Prop where
 rd:Rd w' B b s L lv i ov T
 low:Below B w w'
 kept:Lib.OthersKept 48 (some b) w w'
theorem Took.drewN {w w':World} {B b:Nat} {s:ByteArray} {L:List Rn} {lv:Value} {i:Nat} {ov:Value} {T:List Tk} (h:Took w w' B b s L lv i ov T) (n:Nat):Took w (w'.drewN n) B b s L lv i ov T:=
 ⟨⟨h.rd.blk,h.rd.low,h.rd.run,h.rd.out⟩,below_drewN h.low n,h.kept⟩
theorem Rd.took {w w3:World} {B b g3 cap3:Nat} {s:ByteArray} {L:List Rn} {lv:Value} {i j:Nat} {ov:Value} {T:List Tk} {o1:Obj} {cs2:Array Value} (x:Tk) (h:Rd w B b s L lv i ov T)
 (hg: (((w.alloc o1).drew.drew).alloc (.cells cs2 48)).grownBy w3 ov.ownBlock) (hB:B≤w.heap.size) (hat:ov.ownBlock=some g3∨g3=w.heap.size+2)
 (hown3:w3.ownsRow B 48 5 (.slice (some ⟨g3,0,none⟩) (T.length+1) cap3) (T.length+1) (tkFlat T ++tkCells x)) :
 Took w ((w3.setCell ⟨b,3,none⟩ (.slice (some ⟨g3,0,none⟩) (T.length+1) cap3)).setCell ⟨b,2,none⟩ (.int .i64 j)) B b s L lv j (.slice (some ⟨g3,0,none⟩) (T.length+1) cap3) (T ++ [x]):=by
 have hbl:=h.lt
 have hne:=owns_ne_block h.out h.blk (by decide)
 have hb3:w3.heap[b]?=_:=(heap_far2 hg hbl hne).trans h.blk
 have hg3b:g3≠b:=by
  rcases hat with e|e
  · intro e';exact hne (by rw[e,e'])
  · omega
 have h4:=heap_setCell_same w3 b 3 _ _ (.slice (some ⟨g3,0,none⟩) (T.length+1) cap3) hb3
 have h5:=heap_setCell_same _ b 2 _ _ (.int .i64 j) h4
 have hrow:∀ k,ov.ownBlock=some k→B≤k:=fun k e=>(h.out.lt k e).1
 have lowA:Below B w (((w.alloc o1).drew.drew).alloc (.cells cs2 48)):=(((Below.refl B w).alloc hB o1).drew.drew).alloc (by simp;omega) _
 have low3:Below B w w3:=lowA.grown hg (by simp;omega) hrow
 have kept3:∀ k,k < w.heap.size→ov.ownBlock≠some k→w3.heap[k]?=w.heap[k]?:=fun k hk hne'=>heap_far2 hg hk hne'
 have run3:w3.ownsRow B 96 5 lv L.length (rnFlat .i32 L):=by
  refine⟨h.run.1,?_⟩
  rcases h.run.2 with hn| ⟨g,cap,cur,hv,hBg,hgg,r⟩
  · exact .inl hn
  · exact .inr ⟨g,cap,cur,hv,hBg,(kept3 g (Array.getElem?_eq_some_iff.1 hgg).1 (owns_ne_block h.out hgg (by decide))).trans hgg,r⟩
 have other:∀ (e:TypeId) (sz:Nat) (v:Value) (n:Nat) (xs:List Value) (W:World) (j:Nat) (u:Value),e≠72→(∃ cs t,W.heap[b]?=some (.cells cs t (0,0))∧t=72)→W.ownsRow B e sz v n xs→(W.setCell ⟨b,j,none⟩ u).ownsRow B e sz v n xs:=by
  intro e sz v n xs W j u he hWb ho
  obtain⟨cs,t,hWb,rfl⟩:=hWb
  have hnb:=owns_ne_block ho hWb (Ne.symm he)
  refine⟨ho.1,?_⟩
  rcases ho.2 with hn| ⟨g,cap,cur,hv,hBg,hgg,r⟩
  · exact .inl hn
  · exact .inr ⟨g,cap,cur,hv,hBg,(Below.heap_setCell _ _ _ _ (by show g≠b;intro e';exact hnb (by rw[hv,e'];rfl))).trans hgg,r⟩
 refine⟨⟨?_,h.low,?_,?_⟩,?_,?_⟩
 · simpa using h5
 · exact other _ _ _ _ _ _ _ _ (by decide) ⟨_,_,h4,rfl⟩ (other _ _ _ _ _ _ _ _ (by decide) ⟨_,_,hb3,rfl⟩ run3)
 · rw[tkFlat_snoc,List.length_append]
   exact other _ _ _ _ _ _ _ _ (by decide) ⟨_,_,h4,rfl⟩ (other _ _ _ _ _ _ _ _ (by decide) ⟨_,_,hb3,rfl⟩ hown3)
 · exact(low3.setCell (p:=⟨b,3,none⟩) h.low _).setCell (p:=⟨b,2,none⟩) h.low _
 · intro k o hk hkb hko
   have hk1:=(Array.getElem?_eq_some_iff.1 hk).1
   have hkb':k≠b:=fun e=>hkb (by rw[e])
   have hkr:ov.ownBlock≠some k:=by
    intro e
    rcases h.out.2 with⟨rfl,_⟩ | ⟨g,cap,cur,rfl,_,hgg,_⟩
    · simp[Value.ownBlock] at e
    · simp[Value.ownBlock] at e
      subst e
      rw[hk] at hgg
      exact hko _ _ (Option.some.inj hgg)
   rw[Below.heap_setCell _ _ _ _ (by show k≠b;exact hkb'),Below.heap_setCell _ _ _ _ (by show k≠b;exact hkb'),kept3 k hk1 hkr]
   exact hk
def ldOut:Op:=Op.load 33 (Operand.tmp 21)
theorem ldOut_is:Op.load 33 (Operand.tmp 21)=ldOut:=rfl
attribute [local go_sem] ldOut
set_option maxHeartbeats 2000000 in
theorem take_any {w:World} {B b:Nat} {s:ByteArray} {L:List Rn} {lv:Value} {i:Nat} {ov:Value} {T:List Tk} (h:Rd w B b s L lv i ov T) (kind:Int) (n:Nat) (x y:Rn) (hx:L[i]?=some x) (hy:L[i+ (n - 1)]?=some y) (hn:1≤n) (hL:L.length≤16385) (hT:T.length≤100000)
 (hxy:x.fr≤y.to) (hys:y.to≤s.size) (hB:B≤w.heap.size) :
 Calls Tryz.prog 78 #[.pointer (some ⟨b,0,none⟩),.int .i64 kind,.int .i64 n] w fun e w'=>∃ g3 cap3,e=.returned (.pointer (some ⟨g3,T.length * 5,none⟩))∧
  Took w w' B b s L lv (i+n) (.slice (some ⟨g3,0,none⟩) (T.length+1) cap3) (T ++ [⟨kind,s.extract x.fr y.to,0,x.line,x.col⟩]):=by
 have hi:=(List.getElem?_eq_some_iff.1 hx).1
 have hj:=(List.getElem?_eq_some_iff.1 hy).1
 obtain⟨c0,c1,c2,c3,f2,f3⟩:=h.facts
 obtain⟨g,cap,rfl,d0,d1,d2,d3,d4⟩:=h.rune hx
 obtain⟨g',cap',hv,_,_,e2,_,_⟩:=h.rune hy
 simp only[Value.slice.injEq,Option.some.injEq,Addr.mk.injEq,true_and,and_true] at hv
 obtain⟨rfl,rfl⟩:=hv
 have hbl:=h.lt
 have hgl:=World.block_lt_of_cell? w _ d0
 have hiz: (i:Int) < (L.length:Int):=by omega
 have hjz: (i:Int)+n - 1 < (L.length:Int):=by omega
 have hjz0: (0:Int)≤(i:Int)+n - 1:=by omega
 have hjt: ((i:Int)+ (n:Int) - 1).toNat=i+ (n - 1):=by omega
 have hw1:IntKind.i64.wrap ((i:Int)+ (n:Int))= (i:Int)+n:=IntWalk.i64_in _ (by omega)
 have hw2:IntKind.i64.wrap ((i:Int)+ (n:Int) - 1)= (i:Int)+n - 1:=IntWalk.i64_in _ (by omega)
 have hq1: (1:Int)≤(i:Int)+n:=by omega
 have hxz: (x.fr:Int)≤(y.to:Int):=by omega
 have hyz: (y.to:Int)≤(s.size:Int):=by omega
 have hfz:¬(y.to:Int) < (x.fr:Int):=by omega
 have HOUT:=Lib.hid h.out
 have hlow:=h.low
 have HNE:=Lib.hid (owns_ne_block h.out h.blk (by decide))
 have HNG:=Lib.hid (owns_ne_row h.out h.run (by decide))
 have HNW:Hid (ov.ownBlock≠some w.heap.size):=fun e=>by have:=(h.out.lt _ e).2;omega
 have hgb:g≠b:=fun e=>absurd (owns_ne_block h.run h.blk (by decide)) (by simp[Value.ownBlock,e])
 have HC3:=Lib.hid (And.intro c3 (And.intro c2 (And.intro f3 f2)))
 obtain⟨i0,hi0,hz0,hz1,hz2⟩:=info_parts info_token
 have HIP:=Lib.hid (And.intro hi0 (And.intro hz0 (And.intro hz1 hz2)))
 have HRD:=Lib.hid h
 clear hi0 hz0 hz1 hz2 hx hy h
 go_enter Tryz.func78,Tryz.ntmps78
 go_wp2
 go_region_held3 (fun w'=>w'.cell? ⟨b,1,none⟩ = some (.slice (some ⟨g,0,none⟩) L.length cap)∧w'.cell? ⟨b,2,none⟩ = some (.int .i64 i)∧w'.cell? ⟨g,i * 5,none⟩ = some (.int .i32 x.r)∧w'.cell? ⟨g,i * 5+1,none⟩ = some (.int .i64 x.fr)∧w'.cell? ⟨g,i * 5+2,none⟩ = some (.int .i64 x.to)∧w'.cell? ⟨g,i * 5+3,none⟩ = some (.int .i64 x.line)∧w'.cell? ⟨g,i * 5+4,none⟩ = some (.int .i64 x.col))
  (first|go_keep)
  (first|fail)
 go_wp2
 clear hi hj
 rw[ldOut_is]
 go_region_held3 (fun w'=>w'.cell? ⟨b,0,none⟩ = some (.string s)∧w'.cell? ⟨b,1,none⟩ = some (.slice (some ⟨g,0,none⟩) L.length cap)∧w'.cell? ⟨b,2,none⟩ = some (.int .i64 i)∧w'.cell? ⟨g,(i+ (n - 1)) * 5+2,none⟩ = some (.int .i64 y.to)∧w'.cell? ⟨w.heap.size,1,none⟩ = some (.int .i64 x.fr)∧w'.cell? ⟨w.heap.size,3,none⟩ = some (.int .i64 x.line)∧w'.cell? ⟨w.heap.size,4,none⟩ = some (.int .i64 x.col))
  (first|go_keep| (refine⟨?_,?_,?_,?_,?_,?_,?_⟩ <;> (first|assumption|go_keep| (rw[World.cell?_setCell_other _ _ _ _ (by first| (simp;done)| (simp;omega))];assumption))))
  ((refine step_append_lies _ (by rfl) _ _ _ (by rfl) B 48 i0 _ 5 48 Tryz.underlying33 HIP.out.1 HIP.out.2.1 HIP.out.2.2.1 HIP.out.2.2.2 rfl (by omega) ov T.length (tkFlat T) (by rfl) (World.ownsRow.alloc (World.ownsRow.drew (World.ownsRow.drew (World.ownsRow.alloc HOUT.out _))) _) ⟨w.heap.size+1,0,none⟩ 1 1 [.int .i64 kind,.string (s.extract x.fr y.to),.int .i64 0,.int .i64 x.line,.int .i64 x.col] (by rfl) (by rfl) (World.news_of_block (cs:=#[.int .i64 kind,.string (s.extract x.fr y.to),.int .i64 0,.int .i64 x.line,.int .i64 x.col]) (t:=48) (fr:=(0,0)) (by show((w.alloc _).alloc _).heap[w.heap.size+1]?=_;have:=heap_alloc_new (w.alloc (.cells #[.int .i32 x.r,.int .i64 x.fr,.int .i64 x.to,.int .i64 x.line,.int .i64 x.col] 96)) (.cells #[.int .i64 kind,.string (s.extract x.fr y.to),.int .i64 0,.int .i64 x.line,.int .i64 x.col] 48);simpa using this)) (by simp[Value.oneCell']) (by omega) (by unfold maxLen;omega) (by omega) (by simp;omega) (w.heap.size+2) (by simp) ?_;intro g3 cap3 w3 hown3 hgrow hat hlt3;have p3:=cell_far2 hgrow hbl HNE.out HC3.out.1;have p2:=cell_far2 hgrow hbl HNE.out HC3.out.2.1;have p5:=frozen_far2 hgrow hbl HNE.out HC3.out.2.2.1;have p4:=frozen_far2 hgrow hbl HNE.out HC3.out.2.2.2;have p0:=cell_far2 hgrow hbl HNE.out c0;have p1:=cell_far2 hgrow hbl HNE.out c1;have pg:=cell_far2 hgrow hgl HNG.out e2;have n1:=cell_new2 (j:=1) hgrow HNW.out;have n3:=cell_new2 (j:=3) hgrow HNW.out;have n4:=cell_new2 (j:=4) hgrow HNW.out;simp only[List.getElem?_toArray,List.getElem?_cons_zero,List.getElem?_cons_succ] at n1 n3 n4))
 all_goals
  have HTK:=Lib.hid (Rd.took (j:=i+n) ⟨kind,s.extract x.fr y.to,0,x.line,x.col⟩ HRD.out hgrow hB hat hown3)
  clear hgrow hown3 hat n1 n3 n4 pg p0 p1
  go_wp2
  go_quiet (fail)
  go_wp2
  go_ret
  exact⟨g3,cap3,rfl,HTK.out.drewN _⟩
end Go.Proofs.YthlofmnmacpogaaGreatDoor
namespace Go.Proofs.YthlofmnmacpogaaGreatDoor
open Go.RowKit
end Go.Proofs.YthlofmnmacpogaaGreatDoor
namespace Go.Proofs.YthlofmnmacpogaaGreatDoor
open Go.RowKit
end Go.Proofs.YthlofmnmacpogaaGreatDoor
namespace Go.Proofs.YthlofmnmacpogaaGreatDoor
open Go.RowKit
end Go.Proofs.YthlofmnmacpogaaGreatDoor
namespace Go.Proofs.YthlofmnmacpogaaGreatDoor
open Go.RowKit
end Go.Proofs.YthlofmnmacpogaaGreatDoor
namespace Go.Proofs.YthlofmnmacpogaaGreatDoor
open Go.RowKit
def signN (c d:Int):Nat:=
 if(c=60∨c=62∨c=33)∧d=61 then 2
 else if c=60∨c=62∨c=61∨c=40∨c=41∨c=91∨c=93∨c=44∨c=59 then 1 else 0
def hasGreatB (s:ByteArray):Bool:=s.data.toList.any fun b=>greatB (b.toNat:Int)
end Go.Proofs.YthlofmnmacpogaaGreatDoor
namespace Go.Proofs.YthlofmnmacpogaaGreatDoor
open Go.RowKit
def stepV (n:Nat) (b:UInt8):Nat:=if b.toNat=45 then n else n * 10+ (b.toNat - 48)
def numV (l:List UInt8):Nat:=l.foldl stepV 0
theorem numV_snoc (l:List UInt8) (b:UInt8):numV (l ++ [b])=stepV (numV l) b:=by simp[numV]
theorem stepV_ge (n:Nat) (b:UInt8):n≤stepV n b:=by unfold stepV;split <;> omega
theorem foldV_ge (l:List UInt8) (n:Nat):n≤l.foldl stepV n:=by
 induction l generalizing n with
 | nil=>exact Nat.le_refl _
 | cons b t ih=>exact Nat.le_trans (stepV_ge n b) (ih _)
theorem numV_take (l:List UInt8) (k:Nat):numV (l.take k)≤numV l:=by
 have h:numV l= (l.drop k).foldl stepV (numV (l.take k)):=by
  unfold numV
  rw[←List.foldl_append,List.take_append_drop]
 rw[h];exact foldV_ge _ _
theorem numV_next (s:ByteArray) (k:Nat) (h:k < s.size):numV (s.data.toList.take (k+1))=stepV (numV (s.data.toList.take k)) (s[k]'h):=by
 have e1:s.data.toList.take (k+1)=s.data.toList.take k ++ [s[k]'h]:=by rw[List.take_succ_eq_append_getElem (by simpa using h)];rfl
 rw[e1,numV_snoc]
def valN (s:ByteArray) (below:Bool):Int × Bool:=
 if below then(if numV s.data.toList≤9223372036854775808 then(-(numV s.data.toList:Int),true) else(0,false))
 else(if numV s.data.toList≤9223372036854775807 then((numV s.data.toList:Int),true) else(0,false))
end Go.Proofs.YthlofmnmacpogaaGreatDoor
namespace Go.Proofs.YthlofmnmacpogaaGreatDoor
open Go.RowKit
theorem ret_val {a c:Int} {b d:Bool} (h1:a=c) (h2:b=d):Ending.returned (.tuple #[.int .i64 a,.bool b])=.returned (.tuple #[.int .i64 c,.bool d]):=by rw[h1,h2]
end Go.Proofs.YthlofmnmacpogaaGreatDoor
namespace Go.Proofs.YthlofmnmacpogaaGreatDoor
open Go.RowKit
def wordsB:List ByteArray:=
 [{ data:=#[97,116,116,114] },
  { data:=#[117,115,101,114] },
  { data:=#[114,111,108,101] },
  { data:=#[115,116,97,103,101] },
  { data:=#[105,110] },
  { data:=#[101,118,101,110,116] },
  { data:=#[98,121] },
  { data:=#[115,101,116,115] },
  { data:=#[109,97,120] },
  { data:=#[111,110] },
  { data:=#[105,102] },
  { data:=#[103,117,97,114,100] },
  { data:=#[109,105,108,101,115,116,111,110,101] },
  { data:=#[111,102] },
  { data:=#[102,105,110,97,108] },
  { data:=#[115,111,100] },
  { data:=#[97,110,100] },
  { data:=#[111,114] },
  { data:=#[110,111,116] },
  { data:=#[105,109,112,108,105,101,115] },
  { data:=#[111,112,101,110] },
  { data:=#[100,111,110,101] },
  { data:=#[99,97,110] },
  { data:=#[100,105,100] },
  { data:=#[99,111,109,112,108,101,116,101] },
  { data:=#[115,116,117,99,107] },
  { data:=#[116,114,117,101] },
  { data:=#[102,97,108,115,101] },
  { data:=#[105,100,108,101] },
  { data:=#[108,111,111,112] },
  { data:=#[65,88] },
  { data:=#[69,88] },
  { data:=#[65,70] },
  { data:=#[69,70] },
  { data:=#[65,71] },
  { data:=#[69,71] },
  { data:=#[65] },
  { data:=#[69] },
  { data:=#[85] }]
def knownB (s:ByteArray):Bool:=wordsB.any (fun x=>decide (x=s))
theorem beq_bytes (x s:ByteArray): (x.toList == s.toList)=decide (x=s):=by
 rw[ByteArray.toList_eq,ByteArray.toList_eq,Bool.eq_iff_iff,beq_iff_eq,decide_eq_true_iff]
 constructor
 · intro h
   exact ByteArray.ext (Array.ext' h)
 · rintro rfl
   rfl
end Go.Proofs.YthlofmnmacpogaaGreatDoor
namespace Go.Proofs.YthlofmnmacpogaaGreatDoor
open Go.RowKit
theorem bytes_cons (s:ByteArray) (h0:0 < s.size):s.data.toList=s[0]'h0 :: s.data.toList.drop 1:=by
 have h:0 < s.data.toList.length:=by simpa using h0
 rw[List.drop_one]
 exact(List.cons_head_tail (List.ne_nil_of_length_pos h)).symm.trans (by rw[List.head_eq_getElem];rfl)
theorem dash_is (s:ByteArray) (h0:0 < s.size): ((s.extract 0 1).toList == [45])=decide ((s[0]'h0).toNat=45):=by
 rw[show([45]:List UInt8)= (⟨#[45]⟩:ByteArray).toList by rw[ByteArray.toList_eq],beq_bytes,Bool.eq_iff_iff,decide_eq_true_iff,decide_eq_true_iff]
 have h1: (s.extract 0 1).data.toList= [s[0]'h0]:=by rw[Lib.extract_data,List.drop_zero,bytes_cons s h0];rfl
 constructor
 · intro h
   have: [s[0]'h0]= [45]:=by rw[←h1,h]
   rw[List.cons.inj this |>.1];rfl
 · intro h
   refine ByteArray.ext (Array.ext' ?_)
   rw[h1]
   have:s[0]'h0=45:=UInt8.toNat_inj.1 h
   rw[this]
set_option maxHeartbeats 1000000 in
theorem dash_any (s:ByteArray) (h0:0 < s.size) (w:World) (hs:s.size≤4294967296) :
 Calls Tryz.prog 133 #[.string s,.string ⟨#[45]⟩] w fun e w'=>e=.returned (.bool (decide ((s[0]'h0).toNat=45)))∧w=w':=by
 have HD:=Lib.hid (dash_is s h0)
 go_enter Tryz.func133,Tryz.ntmps133
 go_wp2
 go_ret
 exact⟨ret_bool HD.out,rfl⟩
def noDash (s:ByteArray) (below:Bool):ByteArray:=if below then s.extract 1 s.size else s
set_option maxHeartbeats 1000000 in
theorem trimS_any (s:ByteArray) (h0:0 < s.size) (w:World) (hs:s.size≤4294967296) :
 Calls Tryz.prog 117 #[.string s,.string ⟨#[45]⟩] w fun e w'=>e=.returned (.string (noDash s (decide ((s[0]'h0).toNat=45))))∧w=w':=by
 cases hb:decide ((s[0]'h0).toNat=45)
 · go_enter Tryz.func117,Tryz.ntmps117
   go_wp2_with fail
   refine(dash_any s h0 _ hs).mono ?_
   rintro e w' ⟨rfl,rfl⟩
   rw[hb]
   go_wp2
   go_ret
   exact⟨rfl,rfl⟩
 · go_enter Tryz.func117,Tryz.ntmps117
   go_wp2_with fail
   refine(dash_any s h0 _ hs).mono ?_
   rintro e w' ⟨rfl,rfl⟩
   rw[hb]
   go_wp2
   go_ret
   exact⟨rfl,rfl⟩
set_option maxHeartbeats 1000000 in
theorem trim_any (s:ByteArray) (h0:0 < s.size) (w:World) (hs:s.size≤4294967296) :
 Calls Tryz.prog 100 #[.string s,.string ⟨#[45]⟩] w fun e w'=>e=.returned (.string (noDash s (decide ((s[0]'h0).toNat=45))))∧w=w':=by
 go_enter Tryz.func100,Tryz.ntmps100
 go_wp2_with fail
 refine(trimS_any s h0 _ hs).mono ?_
 rintro e w' ⟨rfl,rfl⟩
 go_wp2
 go_ret
 exact⟨rfl,rfl⟩
end Go.Proofs.YthlofmnmacpogaaGreatDoor
namespace Go.Proofs.YthlofmnmacpogaaGreatDoor
open Go.RowKit
def DigT (s:ByteArray):Prop:=∀ (k:Nat) (h:k < s.size),48≤(s[k]'h).toNat∧(s[k]'h).toNat≤57
theorem tdiv_dash (c:Nat) (h1:48≤c) (h2:c≤57): (-9223372036854775808+ ((c:Int) - 48)).tdiv 10= -((9223372036854775808 - ((c:Int) - 48)) / 10):=by
 rw[show(-9223372036854775808+ ((c:Int) - 48))= -(9223372036854775808 - ((c:Int) - 48)) by omega,Int.neg_tdiv,Int.tdiv_eq_ediv_of_nonneg (by omega)]
set_option maxHeartbeats 2000000 in
theorem value_pos (s:ByteArray) (w:World) (hs:s.size≤4294967296) (h0:0 < s.size) (hn:DigT s) :
 Calls Tryz.prog 86 #[.string s] w fun e w'=>e=.returned (.tuple #[.int .i64 (valN s false).1,.bool (valN s false).2])∧w=w':=by
 have hb:decide ((s[0]'h0).toNat=45)=false:=decide_eq_false (by have:=hn 0 h0;omega)
 have HN:=Lib.hid hn
 clear hn
 go_enter Tryz.func86,Tryz.ntmps86
 go_wp2_with fail
 refine(trim_any s h0 _ hs).mono ?_
 rintro e w' ⟨rfl,rfl⟩
 rw[hb,show noDash s false=s from rfl]
 go_wp2
 go_loop [5,6,7,12] (fun n _ _ i=>∃ (k m:Nat),k≤s.size∧i=.int .i64 k∧n=.int .i64 (-(m:Int))∧m≤9223372036854775808∧Hid (numV (s.data.toList.take k)=m)) (fun _ _ _ i=>s.size - (intOf i).toNat)
 case atStart=>exact⟨0,0,Nat.zero_le _,rfl,rfl,by omega,rfl⟩
 case round=>
  obtain⟨k,m,hk,rfl,rfl,hm,HE⟩:=hrel
  by_cases hlt:k < s.size
  · obtain⟨c,hc⟩:∃ c,(s[k]'hlt).toNat=c:=⟨_,rfl⟩
    have hd:48≤c∧c≤57:=by rw[←hc];exact HN.out k hlt
    have hstep:numV (s.data.toList.take (k+1))=m * 10+ (c - 48):=by
     rw[numV_next s k hlt,HE.out];unfold stepV;rw[hc,if_neg (by omega)]
    have ht:=tdiv_dash c hd.1 hd.2
    by_cases hover:m * 10+ (c - 48)≤9223372036854775808
    · have HS:=Lib.hid hstep;clear hstep
      have hq:¬(-(m:Int) < (-9223372036854775808+ ((c:Int) - 48)).tdiv 10):=by rw[ht];omega
      clear ht
      obtain⟨hd1,hd2⟩:=hd
      go_wp2
      go_round
      case rel=>exact⟨k+1,m * 10+ (c - 48),by omega,by go_num,by go_num,by omega,HS⟩
      case measure=>simp[intOf];omega
    · have hq: (-(m:Int) < (-9223372036854775808+ ((c:Int) - 48)).tdiv 10):=by rw[ht];omega
      have HF:Hid (valN s false= (0,false)):=by
       refine Lib.hid ?_
       have:=numV_take s.data.toList (k+1)
       unfold valN
       rw[if_neg (by simp),if_neg (by omega)]
      clear ht hstep hover
      obtain⟨hd1,hd2⟩:=hd
      go_wp2
      go_ret2
      exact⟨ret_val (by rw[HF.out]) (by rw[HF.out]),rfl⟩
  · have he:numV s.data.toList=m:=by
     have:=HE.out
     rwa [List.take_of_length_le (by simp;omega)] at this
    have hl: (s.toList == s.toList)=true:=by simp
    by_cases hmm:m=9223372036854775808
    · have HF:Hid (valN s false= (0,false)):=by
       refine Lib.hid ?_
       unfold valN
       rw[if_neg (by simp),he,if_neg (by omega)]
      have hm1: ((-(m:Int)) == -9223372036854775808)=true:=by rw[beq_iff_eq];omega
      clear he
      go_wp2
      go_ret2
      exact⟨ret_val (by rw[HF.out]) (by rw[HF.out]),rfl⟩
    · have HF:Hid (valN s false= ((m:Int),true)):=by
       refine Lib.hid ?_
       unfold valN
       rw[if_neg (by simp),he,if_pos (by omega)]
      have hm1: ((-(m:Int)) == -9223372036854775808)=false:=beq_eq_false_iff_ne.2 (by omega)
      clear he
      go_wp2
      go_ret2
      exact⟨ret_val (by first| (rw[HF.out];done)| (rw[HF.out];simp)) (by rw[HF.out]),rfl⟩
theorem numV_dash (s:ByteArray) (h0:0 < s.size) (h: (s[0]'h0).toNat=45):numV (s.extract 1 s.size).data.toList=numV s.data.toList:=by
 rw[Lib.extract_data,List.take_of_length_le (by simp)]
 conv=>rhs;rw[bytes_cons s h0]
 show _= (s.data.toList.drop 1).foldl stepV (stepV 0 (s[0]'h0))
 unfold stepV
 rw[if_pos h]
 rfl
set_option maxHeartbeats 2000000 in
theorem value_neg (s:ByteArray) (w:World) (hs:s.size≤4294967296) (h0:0 < s.size) (hb0: (s[0]'h0).toNat=45) (hn:DigT (s.extract 1 s.size)) :
 Calls Tryz.prog 86 #[.string s] w fun e w'=>e=.returned (.tuple #[.int .i64 (valN s true).1,.bool (valN s true).2])∧w=w':=by
 have hb:decide ((s[0]'h0).toNat=45)=true:=decide_eq_true hb0
 have hnum:=numV_dash s h0 hb0
 have hds:=ByteArray.size_extract (a:=s) (b:=1) (e:=s.size)
 obtain⟨d,hd⟩:∃ d,s.extract 1 s.size=d:=⟨_,rfl⟩
 have hnd:noDash s true=d:=hd
 rw[hd] at hnum hds hn
 have hds:d.size < s.size:=by omega
 have HU:=Lib.hid hnum
 clear hnum hb0 hd
 have HN:=Lib.hid hn
 clear hn
 go_enter Tryz.func86,Tryz.ntmps86
 go_wp2_with fail
 refine(trim_any s h0 _ hs).mono ?_
 rintro e w' ⟨rfl,rfl⟩
 rw[hb,hnd]
 go_wp2
 go_loop [5,6,7,12] (fun n _ _ i=>∃ (k m:Nat),k≤d.size∧i=.int .i64 k∧n=.int .i64 (-(m:Int))∧m≤9223372036854775808∧Hid (numV (d.data.toList.take k)=m)) (fun _ _ _ i=>d.size - (intOf i).toNat)
 case atStart=>exact⟨0,0,Nat.zero_le _,rfl,rfl,by omega,rfl⟩
 case round=>
  obtain⟨k,m,hk,rfl,rfl,hm,HE⟩:=hrel
  by_cases hlt:k < d.size
  · obtain⟨c,hc⟩:∃ c,(d[k]'hlt).toNat=c:=⟨_,rfl⟩
    have hd:48≤c∧c≤57:=by rw[←hc];exact HN.out k hlt
    have hstep:numV (d.data.toList.take (k+1))=m * 10+ (c - 48):=by
     rw[numV_next d k hlt,HE.out];unfold stepV;rw[hc,if_neg (by omega)]
    have ht:=tdiv_dash c hd.1 hd.2
    by_cases hover:m * 10+ (c - 48)≤9223372036854775808
    · have HS:=Lib.hid hstep;clear hstep
      have hq:¬(-(m:Int) < (-9223372036854775808+ ((c:Int) - 48)).tdiv 10):=by rw[ht];omega
      clear ht
      obtain⟨hd1,hd2⟩:=hd
      go_wp2
      go_round
      case rel=>exact⟨k+1,m * 10+ (c - 48),by omega,by go_num,by go_num,by omega,HS⟩
      case measure=>simp[intOf];omega
    · have hq: (-(m:Int) < (-9223372036854775808+ ((c:Int) - 48)).tdiv 10):=by rw[ht];omega
      have HF:Hid (valN s true= (0,false)):=by
       refine Lib.hid ?_
       have:=numV_take d.data.toList (k+1)
       unfold valN
       rw[if_pos rfl,←HU.out,if_neg (by omega)]
      clear ht hstep hover
      obtain⟨hd1,hd2⟩:=hd
      go_wp2
      go_ret2
      exact⟨ret_val (by rw[HF.out]) (by rw[HF.out]),rfl⟩
  · have he:numV d.data.toList=m:=by
     have:=HE.out
     rwa [List.take_of_length_le (by simp;omega)] at this
    have hl: (d.toList == s.toList)=false:=by
     rw[beq_bytes]
     exact decide_eq_false (by rintro rfl;omega)
    have HF:Hid (valN s true= (-(m:Int),true)):=by
     refine Lib.hid ?_
     unfold valN
     rw[if_pos rfl,←HU.out,he,if_pos (by omega)]
    clear he
    go_wp2
    go_ret2
    exact⟨ret_val (by rw[HF.out]) (by rw[HF.out]),rfl⟩
end Go.Proofs.YthlofmnmacpogaaGreatDoor
namespace Go.Proofs.YthlofmnmacpogaaGreatDoor
open Go.RowKit
theorem index_cons (b:UInt8) (l sub:List UInt8): (0≤Lib.index (b :: l) sub) ↔ (sub.isPrefixOf (b :: l)=true∨0≤Lib.index l sub):=by
 have:=Lib.index_ge l sub
 obtain⟨q,hq⟩:∃ q,Lib.index l sub=q:=⟨_,rfl⟩
 rw[show Lib.index (b :: l) sub=if sub.isPrefixOf (b :: l) then 0 else if Lib.index l sub == -1 then -1 else Lib.index l sub+1 by rw[Lib.index]]
 rw[hq] at this ⊢
 cases sub.isPrefixOf (b :: l)
 · by_cases h2:q= -1
   · subst h2;simp
   · have h3: (q == -1)=false:=beq_eq_false_iff_ne.2 h2
     simp[h3];omega
 · simp
theorem index_word (w rest sub:List UInt8) (h:∀ b ∈ w,b≠32): (0≤Lib.index (w ++rest) (32 :: sub)) ↔ 0≤Lib.index rest (32 :: sub):=by
 induction w with
 | nil=>rfl
 | cons b t ih=>
   rw[List.cons_append,index_cons,ih (fun c hc=>h c (List.mem_cons_of_mem _ hc))]
   have: (32 :: sub).isPrefixOf (b :: (t ++rest))=false:=by
    have hb:=h b (List.mem_cons_self)
    simp[List.isPrefixOf]
    intro e;exact absurd e.symm hb
   simp[this]
theorem prefix_word (s w rest:List UInt8) (hs:∀ b ∈ s,b≠32) (hw:∀ b ∈ w,b≠32): (s ++ [32]).isPrefixOf (w ++32 :: rest)=true ↔ w=s:=by
 induction s generalizing w with
 | nil=>
   cases w with
   | nil=>simp[List.isPrefixOf]
   | cons c t=>
     have hc:=hw c (List.mem_cons_self)
     simp[List.isPrefixOf]
     exact fun e=>absurd e.symm hc
 | cons a l ih=>
   cases w with
   | nil=>
     have ha:=hs a (List.mem_cons_self)
     simp[List.isPrefixOf,ha]
   | cons c t=>
     have:=ih t (fun b hb=>hs b (List.mem_cons_of_mem _ hb)) (fun b hb=>hw b (List.mem_cons_of_mem _ hb))
     simp only[List.cons_append,List.isPrefixOf,Bool.and_eq_true,beq_iff_eq,this,List.cons.injEq]
     constructor
     · rintro⟨h1,h2⟩;exact⟨h1.symm,h2⟩
     · rintro⟨h1,h2⟩;exact⟨h1.symm,h2⟩
theorem index_words (ws:List (List UInt8)) (s:List UInt8) (hs:∀ b ∈ s,b≠32) (hw:∀ w ∈ ws,∀ b ∈ w,b≠32) :
 (0≤Lib.index (32 :: ws.flatMap (fun w=>w ++ [32])) (32 :: (s ++ [32]))) ↔ s ∈ ws:=by
 induction ws with
 | nil=>rw[List.flatMap_nil,index_cons];simp[Lib.index,List.isPrefixOf]
 | cons w t ih=>
   rw[List.flatMap_cons,List.append_assoc,index_cons,List.singleton_append,index_word _ _ _ (hw w (List.mem_cons_self)),ih (fun x hx=>hw x (List.mem_cons_of_mem _ hx))]
   have:=prefix_word s w (t.flatMap (fun w=>w ++ [32])) hs (hw w (List.mem_cons_self))
   simp only[List.isPrefixOf,beq_self_eq_true,Bool.true_and,this,List.mem_cons]
   constructor
   · intro h
     rcases h with h|h
     · exact .inl h.symm
     · exact .inr h
   · intro h
     rcases h with h|h
     · exact .inl h.symm
     · exact .inr h
end Go.Proofs.YthlofmnmacpogaaGreatDoor
