import Derived.Test.YtadjnfpomjopkaaGreatSm02
import Derived.RangeFuncNested
import Derived.RangeFuncBound
import Derived.RangeFuncCalls
import Derived.RangeFuncLeaves
import Derived.RangeFuncRecord
import Derived.Test.YtadjnfpomjopkaaGreatSm36
namespace Go.Proofs.YtadjnfpomjopkaaGreat
open Go.RowKit
def Free (bo:Nat) (W:World) (r:Nat):Prop:=∀ v,W.cell? ⟨bo,0,none⟩ = some v→v.ownBlock≠some r
theorem Free.grown {bo r:Nat} {A B:World} {row:Option Nat} (h:Free bo A r) (hg:A.grownBy B row) (hb:bo < A.heap.size) (hr:row≠some bo):Free bo B r:=fun v hv=>
 h v ((World.cell?_of_block (a:=⟨bo,0,none⟩) (hg.block bo hb (fun e=>hr e.symm))).symm.trans hv)
structure Harb (D:Nat→Prop) (bo:Nat) (W W':World):Prop where
 size:W.heap.size≤W'.heap.size
 same:∀ k,D k→k < W.heap.size→Free bo W k→W'.heap[k]?=W.heap[k]?∧Free bo W' k
theorem Harb.refl (D:Nat→Prop) (bo:Nat) (W:World):Harb D bo W W:=⟨Nat.le_refl _,fun _ _ _ h=>⟨rfl,h⟩⟩
theorem Harb.trans {D:Nat→Prop} {bo:Nat} {X Y Z:World} (h:Harb D bo X Y) (k:Harb D bo Y Z):Harb D bo X Z:=
 ⟨Nat.le_trans h.size k.size,fun i hB hi hf=>by
   obtain⟨h1,h2⟩:=h.same i hB hi hf
   obtain⟨k1,k2⟩:=k.same i hB (Nat.lt_of_lt_of_le hi h.size) h2
   exact⟨k1.trans h1,k2⟩⟩
theorem Harb.mono {D D':Nat→Prop} {bo:Nat} {X Y:World} (h:Harb D bo X Y) (hB:∀ k,D' k→D k):Harb D' bo X Y:=⟨h.size,fun i hi=>h.same i (hB i hi)⟩
def Abides' {β:Type} (B bo:Nat) (I:β→World→Prop):Prop:=
 ∀ s A A' row,I s A→A.grownBy A' row→(∀ r,row=some r→B≤r∧Free bo A r)→I s A'
def SeqSt {α:Type} (F:Fence) (n:Nat) (P:Program) (g:Nat) (lb:Array Value) (encs:α→Array Value) (B bo:Nat) (xs:List α) (w:World):Prop:=
 ∀ (l:Nat) (J:List α→World→Prop) (W:World),Below w.heap.size w W→Abides' W.heap.size bo J→(∀ s A,J s A→bo < A.heap.size∧bo < W.heap.size∧W.heap.size≤A.heap.size∧∀ r,A.heap.size≤r→Free bo A r)→(∀ k,B≤k→Free bo W k)→
  (∀ pre x W1,J pre W1→pre ++ [x] <+:xs→YieldAt F (n - 1) P l (encs x) W1 fun e W'=>e=.returned (.bool true)∧J (pre ++ [x]) W'∧Harb (fun k=>(B≤k∧k < w.heap.size)∨W.heap.size≤k) bo W1 W')→
  J [] W→
  CallsIn F n P g (#[.func (.yield l) #[] #[]] ++lb) W fun e W'=>(∃ v,e=.returned v)∧J xs W'
def stPost {α:Type} (B bo:Nat) (I:List α→World→Prop) (xs:List α) (W:World):Exit→Act→World→Prop
 | .normal,_,W'=>Harb (fun k=>B≤k) bo W W'∧I xs W'
 | .ret,_,_=>False
 | .exit _,_,_=>False
 | .goto _,_,_=>False
 | .panic _,_,_=>False
 | .outgrown,_,_=>False
variable {F:Fence} {n:Nat} {P:Program}
theorem wpIn_rangeFunc_st {α:Type} {g:Operand} {ps:Array Tmp} {assign body:Code} {Q:Exit→Act→World→Prop} {a:Act} {w:World}
 (hro:F.round=none) (h1:1≤n) {gf:Nat} {lb:Array Value} (hg:a.eval g=.func (.func gf) #[] lb) (hFg:F.fn gf) (eg:∀ args w,(callFunc gf args).run P w=.ok (.enter gf args) w)
 {encs:α→Array Value} (B bo:Nat) {xs:List α} {w0:World} (hseq:SeqSt F (n - 1) P gf lb encs B bo xs w0)
 (hb0:Below w0.heap.size w0 w) (hps:∀ x,(encs x).size=ps.size) (hbo:bo < w.heap.size) (hB0:B≤w0.heap.size) (hfr:∀ k,B≤k→Free bo w k)
 (I:List α→World→Prop) (hI:Abides' w.heap.size bo I) (hIf:∀ s A,I s A→∀ r,A.heap.size≤r→Free bo A r) (h0:I [] w) (a₁:α→Act)
 (hassign:∀ (l:Nat) (x:α) (W:World) (K:Act→World→Prop),K (a₁ x) W→
   assign.wpIn (F.inRound l) (n - 1 - 1) P (Exit.then K (fun _ _ _=>False)) { tmps:=(ps.zip (encs x)).foldl (fun t (p,v)=>t.setIfInBounds p v) a.tmps,defers:=[] } W)
 (hbody:∀ (l:Nat) (pre:List α) (x:α) (W:World),w.heap.size≤W.heap.size→I pre W→pre ++ [x] <+:xs→body.wpIn (F.inRound l) (n - 1 - 1) P (stPost B bo I (pre ++ [x]) W) (a₁ x) W)
 (hdone:∀ (D:Nat) (W:World),w.heap.size≤D→Free bo W D→I xs W→W.heap[D]?=some (.deferred (some []))→Q .normal { a with defers:={ target:=.collected D,args:=#[] } :: a.defers } W) :
 (Code.rangeFunc g ps assign body).wpIn F n P Q a w:=by
 refine wpIn_rangeFunc ?_
 intro fn hfn
 rw[hro]
 obtain⟨rec,hrec⟩:∃ rec:LoopState→Option Code→Loop,rec=fun st pe=>{ state:=st,pending:=pe,fn,tmps:=a.tmps,params:=ps,assign,body,defers:=w.heap.size }:=⟨_,rfl⟩
 obtain⟨W1,hW1⟩:∃ W1,(w.alloc (.deferred (some []))).alloc (.loop (rec .ready none))=W1:=⟨_,rfl⟩
 have hs1:W1.heap.size=w.heap.size+2:=by rw[←hW1];simp
 have hL1:W1.heap[w.heap.size+1]?=some (.loop (rec .ready none)):=by
  rw[←hW1];have:=World.alloc_heap_new (w.alloc (.deferred (some []))) (.loop (rec .ready none));rwa [World.size_alloc] at this
 have hK1:W1.heap[w.heap.size]?=some (.deferred (some [])):=by
  rw[←hW1];exact(Below.heap_alloc _ _ _ (by simp)).trans (World.alloc_heap_new w _)
 have hIalloc:∀ s A o,I s A→I s (A.alloc o):=fun s A o h=>hI s A _ none h (World.grownBy_alloc A o none) (fun r e=>by cases e)
 have hIput:∀ s A r o,I s A→w.heap.size≤r→Free bo A r→I s (A.putObj r o):=fun s A r o h hr hf=>hI s A _ (some r) h (grownBy_putObj' A r o) (fun r' e=>by cases e;exact⟨hr,hf⟩)
 have hfput:∀ A r k o,Free bo A k→bo < A.heap.size→r≠bo→Free bo (A.putObj r o) k:=fun A r k o hf hb hr=>hf.grown (grownBy_putObj' A r o) hb (fun e=>hr (by cases e;rfl))
 have hI1:I [] W1:=by rw[←hW1];exact hIalloc _ _ _ (hIalloc _ _ _ h0)
 have hfa:∀ A o k,bo < A.heap.size→Free bo A k→Free bo (A.alloc o) k:=fun A o k hb hf=>hf.grown (World.grownBy_alloc A o none) hb (by simp)
 have hB0':w0.heap.size≤w.heap.size:=hb0.size
 have hF1:∀ k,B≤k→Free bo W1 k:=fun k hk=>by
  rw[←hW1];exact hfa _ _ _ (by simp;omega) (hfa _ _ _ hbo (hfr k hk))
 have hb1:Below w0.heap.size w0 W1:=by
  rw[←hW1];exact hb0.trans ((((Below.refl _ w).alloc (Nat.le_refl _) _).alloc (by simp) _).mono hb0.size)
 refine⟨w.heap.size+1,[{ target:=.collected w.heap.size,args:=#[] }],W1,{ target:=.fn (.func gf) lb,args:=#[.func (.yield (w.heap.size+1)) #[] #[]] },W1,gf,
  #[.func (.yield (w.heap.size+1)) #[] #[]] ++lb,W1,?_,?_,?_,?_,fun _=>h1,?_⟩
 · rw[←hW1,hrec];exact run_enterLoop_outer _ _ _ _ _
 · simp only[resolve,hg]
   simp[go_sem]
 · intro f' hf';simp[Target.leads] at hf';subst hf';exact hFg
 · simp[invoke,go_sem,eg]
 · refine(hseq (w.heap.size+1)
    (fun pre W=>I pre W∧W.heap[w.heap.size+1]?=some (.loop (rec .ready none))∧W.heap[w.heap.size]?=some (.deferred (some []))∧Free bo W (w.heap.size+1)∧Free bo W w.heap.size)
    W1 hb1 ?_ ?_ hF1 ?_ ⟨hI1,hL1,hK1,hF1 _ (by omega),hF1 _ (by omega)⟩).mono ?_
   · rintro s A A' row ⟨hi,hl,hk,f1,f2⟩ hg' hr
     have hlt:w.heap.size+1 < A.heap.size:=(Array.getElem?_eq_some_iff.1 hl).1
     have hne:∀ k,k < W1.heap.size→some k≠row:=fun k hk e=>by have:=(hr k e.symm).1;omega
     refine⟨hI s A A' row hi hg' (fun r e=>⟨by have:=(hr r e).1;omega,(hr r e).2⟩),(hg'.block _ hlt (hne _ (by omega))).trans hl,(hg'.block _ (by omega) (hne _ (by omega))).trans hk,?_,?_⟩
     · exact f1.grown hg' (by omega) (fun e=>hne bo (by omega) e.symm)
     · exact f2.grown hg' (by omega) (fun e=>hne bo (by omega) e.symm)
   · rintro s A ⟨hi,hl,hk,f1,f2⟩
     have hlt:w.heap.size+1 < A.heap.size:=(Array.getElem?_eq_some_iff.1 hl).1
     exact⟨by omega,by omega,by omega,hIf s A hi⟩
   ·
    rintro pre x W ⟨hi,hl,hk,f1,f2⟩ hpre
    have hlt:w.heap.size+1 < W.heap.size:=(Array.getElem?_eq_some_iff.1 hl).1
    have hy:=run_yield (P:=P) (args:=encs x) hl (by rw[hrec];exact hps x)
    rw[hrec] at hy
    refine⟨fn,_,assign,body,hy,roundIn_of_wpIn hfn (hassign _ x W _ ⟨_,run_beginRound hl (by rw[hrec]),?_⟩)⟩
    have hl2: (W.putObj (w.heap.size+1) (.loop { rec .ready none with state:=.busy })).heap[w.heap.size+1]?=some (.loop { rec .ready none with state:=.busy }):=World.putObj_heap_same hlt
    have hk2: (W.putObj (w.heap.size+1) (.loop { rec .ready none with state:=.busy })).heap[w.heap.size]?=some (.deferred (some [])):=(World.putObj_heap_other (by omega)).trans hk
    have hsz2: (W.putObj (w.heap.size+1) (.loop { rec .ready none with state:=.busy })).heap.size=W.heap.size:=World.putObj_size
    have g1:Free bo (W.putObj (w.heap.size+1) (.loop { rec .ready none with state:=.busy })) (w.heap.size+1):=hfput _ _ _ _ f1 (by omega) (by omega)
    have g2:Free bo (W.putObj (w.heap.size+1) (.loop { rec .ready none with state:=.busy })) w.heap.size:=hfput _ _ _ _ f2 (by omega) (by omega)
    have hw2:Harb (fun k=>(B≤k∧k < w0.heap.size)∨W1.heap.size≤k) bo W (W.putObj (w.heap.size+1) (.loop { rec .ready none with state:=.busy })):=
     ⟨by rw[hsz2];exact Nat.le_refl _,fun k hB hk hf=>⟨World.putObj_heap_other (by omega),hfput _ _ _ _ hf (by omega) (by omega)⟩⟩
    refine wpIn_mono (hbody _ pre x _ (by rw[hsz2];omega) (hIput _ _ _ _ hi (by omega) f1) hpre) ?_
    rintro e a3 W3 hp
    cases e with
    | normal=>
      obtain⟨hk3,hi3⟩:=hp
      obtain⟨e3,g3⟩:=hk3.same (w.heap.size+1) (by omega) (by rw[hsz2];omega) g1
      obtain⟨e4,g4⟩:=hk3.same w.heap.size (by omega) (by rw[hsz2];omega) g2
      have hl3:=e3.trans hl2
      have hk3':=e4.trans hk2
      have hr:=run_endRound (P:=P) none hl3
      have hlt3:w.heap.size+1 < W3.heap.size:=(Array.getElem?_eq_some_iff.1 hl3).1
      refine⟨_,_,hr,rfl,⟨hIput _ _ _ _ hi3 (by omega) g3,?_,(World.putObj_heap_other (by omega)).trans hk3',hfput _ _ _ _ g3 (by omega) (by omega),hfput _ _ _ _ g4 (by omega) (by omega)⟩,?_⟩
      · rw[World.putObj_heap_same hlt3,hrec];rfl
      · refine(hw2.trans (hk3.mono (fun k hk=>by omega))).trans ⟨by rw[World.putObj_size];exact Nat.le_refl _,fun k hB hk hf=>⟨World.putObj_heap_other (by omega),hfput _ _ _ _ hf (by omega) (by omega)⟩⟩
    | ret=>exact hp.elim
    | exit id=>exact hp.elim
    | goto t=>exact hp.elim
    | panic ch=>exact hp.elim
    | outgrown=>exact hp.elim
   ·
    rintro e W2 ⟨⟨v,rfl⟩,hi,hl,hk,f1,f2⟩
    have hlt:w.heap.size+1 < W2.heap.size:=(Array.getElem?_eq_some_iff.1 hl).1
    exact⟨none,_,by have:=run_endLoop (P:=P) hl (by rw[hrec];simp);rw[hrec] at this;exact this,hdone _ _ (Nat.le_refl _) (hfput _ _ _ _ f2 (by omega) (by omega)) (hIput _ _ _ _ hi (by omega) f1) ((World.putObj_heap_other (by omega)).trans hk)⟩
end Go.Proofs.YtadjnfpomjopkaaGreat
namespace Go.Proofs.YtadjnfpomjopkaaGreat
open Go.RowKit
def DomE (bo n0:Nat) (k:Nat):Prop:=(k < n0∧k≠bo)∨n0+2≤k
def HarE (D:Nat→Prop) (bo:Nat) (W W':World):Prop:=Harb D bo W W'∧W'.os=W.os∧W'.tape=W.tape∧W'.output=W.output
theorem HarE.refl (D:Nat→Prop) (bo:Nat) (W:World):HarE D bo W W:=⟨Harb.refl D bo W,rfl,rfl,rfl⟩
theorem HarE.trans {D:Nat→Prop} {bo:Nat} {X Y Z:World} (h:HarE D bo X Y) (k:HarE D bo Y Z):HarE D bo X Z:=⟨h.1.trans k.1,k.2.1.trans h.2.1,k.2.2.1.trans h.2.2.1,k.2.2.2.trans h.2.2.2⟩
theorem HarE.mono {D D':Nat→Prop} {bo:Nat} {X Y:World} (h:HarE D bo X Y) (hB:∀ k,D' k→D k):HarE D' bo X Y:=⟨h.1.mono hB,h.2⟩
theorem HarE.of_grown {D:Nat→Prop} {bo:Nat} {W W':World} {row:Option Nat} (hg:W.grownBy W' row) (hb:bo < W.heap.size) (h1:row≠some bo) (h2:∀ r,row=some r→¬D r∨¬Free bo W r):HarE D bo W W':=
 ⟨⟨hg.size,fun k hD hk hf=>⟨hg.block k hk (fun e=>by rcases h2 k e.symm with h|h;exact h hD;exact h hf),hf.grown hg hb h1⟩⟩,hg.os,hg.tape,hg.output⟩
theorem HarE.below {D:Nat→Prop} {bo B:Nat} {W W':World} (h:HarE D bo W W') (hB:B≤W.heap.size) (hD:∀ k,k < B→D k) (hf:∀ k,k < B→Free bo W k):Below B W W':=
 ⟨h.2.1,h.2.2.1,h.2.2.2,h.1.size,fun k hk=>(h.1.same k (hD k hk) (by omega) (hf k hk)).1⟩
theorem Free.below {bo r:Nat} {A B:World} (h:Free bo A r) (hb:Below A.heap.size A B) (hbo:bo < A.heap.size):Free bo B r:=fun v hv=>
 h v ((World.cell?_of_block (a:=⟨bo,0,none⟩) (hb.block bo hbo)).symm.trans hv)
theorem HarE.of_below {D:Nat→Prop} {bo:Nat} {A B:World} (hb:Below A.heap.size A B) (hbo:bo < A.heap.size):HarE D bo A B:=
 ⟨⟨hb.size,fun k _ hk hf=>⟨hb.block k hk,hf.below hb hbo⟩⟩,hb.os,hb.tape,hb.output⟩
def AbidesN {α:Type} (N:α→Nat→Prop) (B bo:Nat) (I:List α→World→Prop):Prop:=
 ∀ s A A' row,I s A→A.grownBy A' row→(∀ r,row=some r→B≤r∧Free bo A r∧∀ x ∈ s,¬N x r)→I s A'
theorem abides_below {α:Type} {N:α→Nat→Prop} {B bo:Nat} {I:List α→World→Prop} (h:AbidesN N B bo I) {s:List α} {A A':World} (hs:I s A) (hb:Below A.heap.size A A'):I s A':=
 h s A A' none hs ⟨hb.os,hb.tape,hb.output,hb.size,fun k hk _=>hb.block k hk⟩ (fun r e=>by cases e)
def SeqE {α:Type} (F:Fence) (n:Nat) (P:Program) (g:Nat) (lb:Array Value) (encs:α→Array Value) (bo:Nat) (N:α→Nat→Prop) (G:List α→α→(Nat→Prop)→World→Prop) (S:List α→Prop) (w:World):Prop:=
 ∀ (l:Nat) (J Jx:List α→World→Prop) (W:World),Below w.heap.size w W→W.heap.size=w.heap.size+2→AbidesN N W.heap.size bo J→
  (∀ s A,J s A→bo < w.heap.size∧W.heap.size≤A.heap.size∧∀ r,A.heap.size≤r→Free bo A r)→(∀ k,k≠bo→Free bo W k)→
  (∀ pre x W1,J pre W1→G pre x (DomE bo w.heap.size) W1→YieldAt F (n - 1) P l (encs x) W1 fun e W'=>(e=.returned (.bool true)∧J (pre ++ [x]) W'∧HarE (DomE bo w.heap.size) bo W1 W')∨(e=.returned (.bool false)∧Jx (pre ++ [x]) W'))→
  J [] W→
  CallsIn F n P g (#[.func (.yield l) #[] #[]] ++lb) W fun e W'=>(∃ v,e=.returned v)∧((∃ xs,S xs∧J xs W')∨∃ pre,Jx pre W')
def stPostE {α:Type} (bo n0:Nat) (I:List α→World→Prop) (Ix:Code→List α→World→Prop) (xs:List α) (W:World):Exit→Act→World→Prop
 | .normal,_,W'=>HarE (fun k=>k≠bo) bo W W'∧I xs W'
 | .ret,_,W'=>Harb (fun k=>n0≤k) bo W W'∧Ix .ret xs W'
 | .exit _,_,_=>False
 | .goto _,_,_=>False
 | .panic _,_,_=>False
 | .outgrown,_,_=>False
variable {F:Fence} {n:Nat} {P:Program}
theorem wpIn_rangeFunc_E {α:Type} {g:Operand} {ps:Array Tmp} {assign body:Code} {Q:Exit→Act→World→Prop} {a:Act} {w:World}
 (hro:F.round=none) (h1:1≤n) {gf:Nat} {lb:Array Value} (hg:a.eval g=.func (.func gf) #[] lb) (hFg:F.fn gf) (eg:∀ args w,(callFunc gf args).run P w=.ok (.enter gf args) w)
 {encs:α→Array Value} (bo:Nat) {N:α→Nat→Prop} {G:List α→α→(Nat→Prop)→World→Prop} {S:List α→Prop} (hseq:SeqE F (n - 1) P gf lb encs bo N G S w)
 (hN:∀ pre x D A,G pre x D A→∀ r,N x r→D r)
 (hG:∀ pre x D A A',G pre x D A→HarE D bo A A'→G pre x D A')
 (hps:∀ x,(encs x).size=ps.size) (hbo:bo < w.heap.size) (hfr:∀ k,k≠bo→Free bo w k)
 (I:List α→World→Prop) (Ix:Code→List α→World→Prop) (hI:AbidesN N w.heap.size bo I) (hIx:∀ c,AbidesN N w.heap.size bo (Ix c)) (hIf:∀ s A,I s A→∀ r,A.heap.size≤r→Free bo A r) (h0:I [] w) (A:α→World→Act→Prop) (hA:∀ x W a o,A x W a→A x (W.putObj (w.heap.size+1) o) a)
 (hassign:∀ (l:Nat) (x:α) (W:World) (K:Act→World→Prop),w.heap.size+2≤W.heap.size→(∀ a₁ W',Below W.heap.size W W'→A x W' a₁→K a₁ W')→
   assign.wpIn (F.inRound l) (n - 1 - 1) P (Exit.then K (fun _ _ _=>False)) { tmps:=(ps.zip (encs x)).foldl (fun t (p,v)=>t.setIfInBounds p v) a.tmps,defers:=[] } W)
 (hbody:∀ (l:Nat) (pre:List α) (x:α) (a₁:Act) (W:World),w.heap.size+2≤W.heap.size→I pre W→G pre x (DomE bo w.heap.size) W→A x W a₁→body.wpIn (F.inRound l) (n - 1 - 1) P (stPostE bo w.heap.size I Ix (pre ++ [x]) W) a₁ W)
 (hdone:∀ (D:Nat) (xs:List α) (W:World),D=w.heap.size→Free bo W D→S xs→I xs W→W.heap[D]?=some (.deferred (some []))→Q .normal { a with defers:={ target:=.collected D,args:=#[] } :: a.defers } W)
 (hstop:∀ (D:Nat) (c:Code) (pre:List α) (W:World),D=w.heap.size→Free bo W D→Ix c pre W→W.heap[D]?=some (.deferred (some []))→c.wpIn F n P Q { a with defers:={ target:=.collected D,args:=#[] } :: a.defers } W) :
 (Code.rangeFunc g ps assign body).wpIn F n P Q a w:=by
 refine wpIn_rangeFunc ?_
 intro fn hfn
 rw[hro]
 obtain⟨rec,hrec⟩:∃ rec:LoopState→Option Code→Loop,rec=fun st pe=>{ state:=st,pending:=pe,fn,tmps:=a.tmps,params:=ps,assign,body,defers:=w.heap.size }:=⟨_,rfl⟩
 obtain⟨W1,hW1⟩:∃ W1,(w.alloc (.deferred (some []))).alloc (.loop (rec .ready none))=W1:=⟨_,rfl⟩
 have hs1:W1.heap.size=w.heap.size+2:=by rw[←hW1];simp
 have hL1:W1.heap[w.heap.size+1]?=some (.loop (rec .ready none)):=by
  rw[←hW1];have:=World.alloc_heap_new (w.alloc (.deferred (some []))) (.loop (rec .ready none));rwa [World.size_alloc] at this
 have hK1:W1.heap[w.heap.size]?=some (.deferred (some [])):=by
  rw[←hW1];exact(Below.heap_alloc _ _ _ (by simp)).trans (World.alloc_heap_new w _)
 have hIalloc:∀ s A o,I s A→I s (A.alloc o):=fun s A o h=>hI s A _ none h (World.grownBy_alloc A o none) (fun r e=>by cases e)
 have hNr:∀ s:List α,(∀ x ∈ s,∀ r,N x r→DomE bo w.heap.size r)→∀ r,w.heap.size≤r→r < w.heap.size+2→∀ x ∈ s,¬N x r:=fun s h r h1 h2 x hx hn=>by have:=h x hx r hn;unfold DomE at this;omega
 have hIput:∀ s A r o,I s A→w.heap.size≤r→Free bo A r→(∀ x ∈ s,¬N x r)→I s (A.putObj r o):=fun s A r o h hr hf hn=>hI s A _ (some r) h (grownBy_putObj' A r o) (fun r' e=>by cases e;exact⟨hr,hf,hn⟩)
 have hXput:∀ c s A r o,Ix c s A→w.heap.size≤r→Free bo A r→(∀ x ∈ s,¬N x r)→Ix c s (A.putObj r o):=fun c s A r o h hr hf hn=>hIx c s A _ (some r) h (grownBy_putObj' A r o) (fun r' e=>by cases e;exact⟨hr,hf,hn⟩)
 have hfput:∀ A r k o,Free bo A k→bo < A.heap.size→r≠bo→Free bo (A.putObj r o) k:=fun A r k o hf hb hr=>hf.grown (grownBy_putObj' A r o) hb (fun e=>hr (by cases e;rfl))
 have hI1:I [] W1:=by rw[←hW1];exact hIalloc _ _ _ (hIalloc _ _ _ h0)
 have hfa:∀ A o k,bo < A.heap.size→Free bo A k→Free bo (A.alloc o) k:=fun A o k hb hf=>hf.grown (World.grownBy_alloc A o none) hb (by simp)
 have hF1:∀ k,k≠bo→Free bo W1 k:=fun k hk=>by
  rw[←hW1];exact hfa _ _ _ (by simp;omega) (hfa _ _ _ hbo (hfr k hk))
 have hb1:Below w.heap.size w W1:=by
  rw[←hW1];exact((Below.refl _ w).alloc (Nat.le_refl _) _).alloc (by simp) _
 refine⟨w.heap.size+1,[{ target:=.collected w.heap.size,args:=#[] }],W1,{ target:=.fn (.func gf) lb,args:=#[.func (.yield (w.heap.size+1)) #[] #[]] },W1,gf,
  #[.func (.yield (w.heap.size+1)) #[] #[]] ++lb,W1,?_,?_,?_,?_,fun _=>h1,?_⟩
 · rw[←hW1,hrec];exact run_enterLoop_outer _ _ _ _ _
 · simp only[resolve,hg]
   simp[go_sem]
 · intro f' hf';simp[Target.leads] at hf';subst hf';exact hFg
 · simp[invoke,go_sem,eg]
 · refine(hseq (w.heap.size+1)
    (fun pre W=>(I pre W∧w.heap.size+2≤W.heap.size∧∀ x ∈ pre,∀ r,N x r→DomE bo w.heap.size r)∧W.heap[w.heap.size+1]?=some (.loop (rec .ready none))∧W.heap[w.heap.size]?=some (.deferred (some []))∧Free bo W (w.heap.size+1)∧Free bo W w.heap.size)
    (fun pre W=>∃ c,Ix c pre W∧W.heap[w.heap.size+1]?=some (.loop (rec .done (some c)))∧W.heap[w.heap.size]?=some (.deferred (some []))∧Free bo W (w.heap.size+1)∧Free bo W w.heap.size∧∀ x ∈ pre,∀ r,N x r→DomE bo w.heap.size r)
    W1 hb1 hs1 ?_ ?_ hF1 ?_ ⟨⟨hI1,by omega,fun x hx=>by cases hx⟩,hL1,hK1,hF1 _ (by omega),hF1 _ (by omega)⟩).mono ?_
   · rintro s A A' row ⟨⟨hi,hsz,hnx⟩,hl,hk,f1,f2⟩ hg' hr
     have hlt:w.heap.size+1 < A.heap.size:=(Array.getElem?_eq_some_iff.1 hl).1
     have hne:∀ k,k < W1.heap.size→some k≠row:=fun k hk e=>by have:=(hr k e.symm).1;omega
     refine⟨⟨hI s A A' row hi hg' (fun r e=>⟨by have:=(hr r e).1;omega,(hr r e).2.1,(hr r e).2.2⟩),Nat.le_trans hsz hg'.size,hnx⟩,(hg'.block _ hlt (hne _ (by omega))).trans hl,(hg'.block _ (by omega) (hne _ (by omega))).trans hk,?_,?_⟩
     · exact f1.grown hg' (by omega) (fun e=>hne bo (by omega) e.symm)
     · exact f2.grown hg' (by omega) (fun e=>hne bo (by omega) e.symm)
   · rintro s A ⟨⟨hi,hsz,hnx⟩,hl,hk,f1,f2⟩
     exact⟨hbo,by omega,hIf s A hi⟩
   ·
    rintro pre x W ⟨⟨hi,hsz,hnx⟩,hl,hk,f1,f2⟩ hGx
    have hnx2:∀ y ∈ pre ++ [x],∀ r,N y r→DomE bo w.heap.size r:=fun y hy=>by
     rcases List.mem_append.1 hy with h|h
     · exact hnx y h
     · rw[List.mem_singleton.1 h];exact hN _ _ _ _ hGx
    have hq:=hNr _ hnx
    have hq2:=hNr _ hnx2
    have hlt:w.heap.size+1 < W.heap.size:=(Array.getElem?_eq_some_iff.1 hl).1
    have hy:=run_yield (P:=P) (args:=encs x) hl (by rw[hrec];exact hps x)
    rw[hrec] at hy
    refine⟨fn,_,assign,body,hy,roundIn_of_wpIn hfn (hassign _ x W _ hsz (fun a₁ Wa hba hAx=>?_))⟩
    have hw1:HarE (DomE bo w.heap.size) bo W Wa:=HarE.of_below hba (by omega)
    obtain⟨W0,hW0⟩:∃ W0,W=W0:=⟨_,rfl⟩
    have hlW:=hl
    replace hi:=abides_below hI hi hba
    replace hl:=(hba.block _ hlt).trans hl
    replace hk:=(hba.block _ (by omega)).trans hk
    replace f1:=f1.below hba (by omega)
    replace f2:=f2.below hba (by omega)
    replace hsz:=Nat.le_trans hsz hba.size
    replace hGx:=hG _ _ _ _ _ hGx hw1
    have hltW:=hlt
    replace hlt:=Nat.lt_of_lt_of_le hlt hba.size
    clear hW0 W0
    refine⟨_,run_beginRound hl (by rw[hrec]),?_⟩
    clear hlW hltW
    have hl2: (Wa.putObj (w.heap.size+1) (.loop { rec .ready none with state:=.busy })).heap[w.heap.size+1]?=some (.loop { rec .ready none with state:=.busy }):=World.putObj_heap_same hlt
    have hk2: (Wa.putObj (w.heap.size+1) (.loop { rec .ready none with state:=.busy })).heap[w.heap.size]?=some (.deferred (some [])):=(World.putObj_heap_other (by omega)).trans hk
    have hsz2: (Wa.putObj (w.heap.size+1) (.loop { rec .ready none with state:=.busy })).heap.size=Wa.heap.size:=World.putObj_size
    have g1:Free bo (Wa.putObj (w.heap.size+1) (.loop { rec .ready none with state:=.busy })) (w.heap.size+1):=hfput _ _ _ _ f1 (by omega) (by omega)
    have g2:Free bo (Wa.putObj (w.heap.size+1) (.loop { rec .ready none with state:=.busy })) w.heap.size:=hfput _ _ _ _ f2 (by omega) (by omega)
    have hw2:HarE (DomE bo w.heap.size) bo Wa (Wa.putObj (w.heap.size+1) (.loop { rec .ready none with state:=.busy })):=
     HarE.of_grown (grownBy_putObj' Wa _ _) (by omega) (by simp;omega) (fun r e=>by cases e;left;unfold DomE;omega)
    refine wpIn_mono (hbody _ pre x _ _ (by rw[hsz2];exact hsz) (hIput _ _ _ _ hi (by omega) f1 (hq _ (by omega) (by omega))) (hG _ _ _ _ _ hGx hw2) (hA _ _ _ _ hAx)) ?_
    rintro e a3 W3 hp
    cases e with
    | normal=>
      obtain⟨hk3,hi3⟩:=hp
      obtain⟨e3,g3⟩:=hk3.1.same (w.heap.size+1) (by omega) (by rw[hsz2];omega) g1
      obtain⟨e4,g4⟩:=hk3.1.same w.heap.size (by omega) (by rw[hsz2];omega) g2
      have hl3:=e3.trans hl2
      have hk3':=e4.trans hk2
      have hr:=run_endRound (P:=P) none hl3
      have hlt3:w.heap.size+1 < W3.heap.size:=(Array.getElem?_eq_some_iff.1 hl3).1
      refine⟨_,_,hr,.inl ⟨rfl,⟨⟨hIput _ _ _ _ hi3 (by omega) g3 (hq2 _ (by omega) (by omega)),by rw[World.putObj_size];have:=hk3.1.size;omega,hnx2⟩,?_,(World.putObj_heap_other (by omega)).trans hk3',hfput _ _ _ _ g3 (by omega) (by omega),hfput _ _ _ _ g4 (by omega) (by omega)⟩,?_⟩⟩
      · rw[World.putObj_heap_same hlt3,hrec];rfl
      · refine((hw1.trans hw2).trans (hk3.mono (fun k hk=>by unfold DomE at hk;omega))).trans (HarE.of_grown (grownBy_putObj' W3 _ _) (by omega) (by simp;omega) (fun r e=>by cases e;left;unfold DomE;omega))
    | ret=>
      obtain⟨hk3,hi3⟩:=hp
      obtain⟨e3,g3⟩:=hk3.same (w.heap.size+1) (by omega) (by rw[hsz2];omega) g1
      obtain⟨e4,g4⟩:=hk3.same w.heap.size (by omega) (by rw[hsz2];omega) g2
      have hl3:=e3.trans hl2
      have hk3':=e4.trans hk2
      have hr:=run_endRound (P:=P) (some .ret) hl3
      have hlt3:w.heap.size+1 < W3.heap.size:=(Array.getElem?_eq_some_iff.1 hl3).1
      refine⟨_,_,hr,.inr ⟨rfl,.ret,hXput _ _ _ _ _ hi3 (by omega) g3 (hq2 _ (by omega) (by omega)),?_,(World.putObj_heap_other (by omega)).trans hk3',hfput _ _ _ _ g3 (by omega) (by omega),hfput _ _ _ _ g4 (by omega) (by omega),hnx2⟩⟩
      rw[World.putObj_heap_same hlt3,hrec];rfl
    | exit id=>exact hp.elim
    | goto t=>exact hp.elim
    | panic ch=>exact hp.elim
    | outgrown=>exact hp.elim
   ·
    rintro e W2 ⟨⟨v,rfl⟩,(⟨xs,hS,⟨hi,hsz,hnx⟩,hl,hk,f1,f2⟩ | ⟨pre,c,hi,hl,hk,f1,f2,hnx⟩)⟩
    · have hlt:w.heap.size+1 < W2.heap.size:=(Array.getElem?_eq_some_iff.1 hl).1
      exact⟨none,_,by have:=run_endLoop (P:=P) hl (by rw[hrec];simp);rw[hrec] at this;exact this,hdone _ xs _ rfl (hfput _ _ _ _ f2 (by omega) (by omega)) hS (hIput _ _ _ _ hi (by omega) f1 (hNr _ hnx _ (by omega) (by omega))) ((World.putObj_heap_other (by omega)).trans hk)⟩
    · exact⟨some c,_,by have:=run_endLoop (P:=P) hl (by rw[hrec];simp);rw[hrec] at this;exact this,hstop _ c pre _ rfl (hfput _ _ _ _ f2 (by have:=(Array.getElem?_eq_some_iff.1 hl).1;omega) (by omega)) (hXput _ _ _ _ _ hi (by omega) f1 (hNr _ hnx _ (by omega) (by omega))) ((World.putObj_heap_other (by omega)).trans hk)⟩
end Go.Proofs.YtadjnfpomjopkaaGreat
namespace Go.Proofs.YtadjnfpomjopkaaGreat
open Go.RowKit
theorem HarE.cell {D:Nat→Prop} {bo b:Nat} {A:World} (hne:b≠bo) (hD:¬D b) (j:Nat) (v:Value):HarE D bo A (A.setCell ⟨b,j,none⟩ v):=
 ⟨⟨by simp,fun k hk _ hf=>⟨Below.heap_setCell _ _ _ _ (fun e=>hD (by cases e;exact hk)),fun u hu=>hf u ((World.cell?_of_block (a:=⟨bo,0,none⟩) (Below.heap_setCell _ _ _ _ (Ne.symm hne))).symm.trans hu)⟩⟩,rfl,rfl,rfl⟩
def AwR (D:Nat→Prop) (bo:Nat) (W:World) (ad:Option Addr) (l:List Int):Prop:=l= []∨∃ a:Addr,ad=some a∧D a.block∧a.block < W.heap.size∧Free bo W a.block
theorem AwR.har {D:Nat→Prop} {bo:Nat} {W W':World} {ad:Option Addr} {l:List Int} (h:AwR D bo W ad l) (hk:HarE D bo W W'):AwR D bo W' ad l:=by
 rcases h with h| ⟨a,h1,h2,h3,h4⟩
 · exact .inl h
 · exact .inr ⟨a,h1,h2,Nat.lt_of_lt_of_le h3 hk.1.size,(hk.1.same _ h2 h3 h4).2⟩
theorem RowE.har {D:Nat→Prop} {bo n k:Nat} {V W:World} {ad:Option Addr} {l:List Int} (h:RowE intE 1 V (.slice ad n k) l) (hl:AwR D bo V ad l) (hT:HarE D bo V W):RowE intE 1 W (.slice ad n k) l:=by
 obtain⟨ad',cap',e,hc,h⟩:=h
 refine⟨ad',cap',e,hc,?_⟩
 rcases h with h| ⟨g,off,ha,hg,hx⟩
 · exact .inl h
 rcases hl with h| ⟨a,ea,hD,hB,hF⟩
 · exact .inl h
 simp only[Value.slice.injEq] at e
 have hag:a= ⟨g,off,none⟩:=by have:=e.1;rw[ea,ha] at this;exact Option.some.inj this
 subst hag
 refine .inr ⟨g,off,ha,Nat.lt_of_lt_of_le hg hT.1.size,fun i a hi=>?_⟩
 obtain⟨cs',h1,h2,h3⟩:=hx i a hi
 exact⟨cs',h1,h2,fun j u hj=>(World.cell?_of_block (hT.1.same g hD hg hF).1).trans (h3 j u hj)⟩
def StW (D:Nat→Prop) (bo:Nat) (W:World) (r:Stm) (s:Sta):Prop:=StQ W r s∧AwR D bo W r.a0 s.vals∧AwR D bo W r.a3 s.did∧AwR D bo W r.a4 s.cnt
theorem StW.har {D:Nat→Prop} {bo:Nat} {W W':World} {r:Stm} {s:Sta} (h:StW D bo W r s) (hk:HarE D bo W W'):StW D bo W' r s:=
 ⟨⟨RowE.har h.1.vals h.2.1 hk,RowE.har h.1.did h.2.2.1 hk,RowE.har h.1.cnt h.2.2.2 hk⟩,h.2.1.har hk,h.2.2.1.har hk,h.2.2.2.har hk⟩
theorem StW.below {D:Nat→Prop} {bo:Nat} {W W':World} {r:Stm} {s:Sta} (h:StW D bo W r s) (hb:Below W.heap.size W W') (hbo:bo < W.heap.size):StW D bo W' r s:=h.har (HarE.of_below hb hbo)
theorem RowE.inside {n k:Nat} {V:World} {ad:Option Addr} {l:List Int} (h:RowE intE 1 V (.slice ad n k) l):l= []∨∃ a:Addr,ad=some a∧a.block < V.heap.size:=by
 obtain⟨ad',cap',e,hc,h⟩:=h
 simp only[Value.slice.injEq] at e
 rcases h with h| ⟨g,off,ha,hg,hx⟩
 · exact .inl h
 · exact .inr ⟨_,e.1.trans ha,hg⟩
theorem AwR.made {D:Nat→Prop} {bo B n k:Nat} {V:World} {ad:Option Addr} {l:List Int} (h:RowE intE 1 V (.slice ad n k) l) (hA:l= []∨∃ a:Addr,ad=some a∧B≤a.block) (hf:∀ k,B≤k→Free bo V k) (hD:∀ k,B≤k→D k):AwR D bo V ad l:=by
 rcases h.inside with h| ⟨a,e,hs⟩
 · exact .inl h
 rcases hA with h| ⟨a',e',hB⟩
 · exact .inl h
 rw[e] at e'
 cases e'
 exact .inr ⟨a,e,hD _ hB,hs,hf _ hB⟩
theorem StW.made {D:Nat→Prop} {bo:Nat} {A V:World} {r:Stm} {s:Sta} (h:StQ V r s) (hA:StA A.heap.size r s) (hb:Below A.heap.size A V) (hbo:bo < A.heap.size) (hf:∀ k,A.heap.size≤k→Free bo A k) (hD:∀ k,A.heap.size≤k→D k):StW D bo V r s:=
 have hf':∀ k,A.heap.size≤k→Free bo V k:=fun k hk=>(hf k hk).below hb hbo
 ⟨h,AwR.made h.vals hA.1 hf' hD,AwR.made h.did hA.2.1 hf' hD,AwR.made h.cnt hA.2.2 hf' hD⟩
theorem abides_cell {α:Type} {N:α→Nat→Prop} {B bo b:Nat} {I:List α→World→Prop} (h:AbidesN N B bo I) {s:List α} {A:World} (hs:I s A) (hb:B≤b) (hf:Free bo A b) (hn:∀ x ∈ s,¬N x b) (j:Nat) (v:Value):I s (A.setCell ⟨b,j,none⟩ v):=
 h s A _ (some b) hs ⟨rfl,rfl,rfl,by simp,fun k _ hk=>Below.heap_setCell _ _ _ _ (fun e=>hk (by cases e;rfl))⟩ (fun r e=>by cases e;exact⟨hb,hf,hn⟩)
theorem AwR.mono {D D':Nat→Prop} {bo:Nat} {W:World} {ad:Option Addr} {l:List Int} (h:AwR D bo W ad l) (hD:∀ k,k < W.heap.size→D k→D' k):AwR D' bo W ad l:=by
 rcases h with h| ⟨a,h1,h2,h3,h4⟩
 · exact .inl h
 · exact .inr ⟨a,h1,hD _ h3 h2,h3,h4⟩
theorem StW.mono {D D':Nat→Prop} {bo:Nat} {W:World} {r:Stm} {s:Sta} (h:StW D bo W r s) (hD:∀ k,k < W.heap.size→D k→D' k):StW D' bo W r s:=⟨h.1,h.2.1.mono hD,h.2.2.1.mono hD,h.2.2.2.mono hD⟩
def putW (W:World) (b:Nat) (a0 a1 a2 a3 a4:Value):World:=((((W.setCell ⟨b,0,none⟩ a0).setCell ⟨b,1,none⟩ a1).setCell ⟨b,2,none⟩ a2).setCell ⟨b,3,none⟩ a3).setCell ⟨b,4,none⟩ a4
theorem HarE.putW {D:Nat→Prop} {bo b:Nat} {A:World} (hne:b≠bo) (hD:¬D b) (a0 a1 a2 a3 a4:Value):HarE D bo A (putW A b a0 a1 a2 a3 a4):=
 (((((HarE.cell hne hD 0 a0).trans (HarE.cell hne hD 1 a1)).trans (HarE.cell hne hD 2 a2)).trans (HarE.cell hne hD 3 a3)).trans (HarE.cell hne hD 4 a4))
theorem Free.cell {bo b k:Nat} {A:World} (h:Free bo A k) (hne:b≠bo) (j:Nat) (u:Value):Free bo (A.setCell ⟨b,j,none⟩ u) k:=fun v hv=>
 h v ((World.cell?_of_block (a:=⟨bo,0,none⟩) (Below.heap_setCell _ _ _ _ (Ne.symm hne))).symm.trans hv)
theorem Free.putW {bo b k:Nat} {A:World} (h:Free bo A k) (hne:b≠bo) (a0 a1 a2 a3 a4:Value):Free bo (putW A b a0 a1 a2 a3 a4) k:=
 ((((h.cell hne 0 a0).cell hne 1 a1).cell hne 2 a2).cell hne 3 a3).cell hne 4 a4
theorem abides_putW {α:Type} {N:α→Nat→Prop} {B bo b:Nat} {I:List α→World→Prop} (h:AbidesN N B bo I) {s:List α} {A:World} (hs:I s A) (hb:B≤b) (hne:b≠bo) (hf:Free bo A b) (hn:∀ x ∈ s,¬N x b) (a0 a1 a2 a3 a4:Value):I s (putW A b a0 a1 a2 a3 a4):=by
 have h0:=abides_cell h hs hb hf hn 0 a0
 have f0:=hf.cell hne 0 a0
 have h1:=abides_cell h h0 hb f0 hn 1 a1
 have f1:=f0.cell hne 1 a1
 have h2:=abides_cell h h1 hb f1 hn 2 a2
 have f2:=f1.cell hne 2 a2
 have h3:=abides_cell h h2 hb f2 hn 3 a3
 exact abides_cell h h3 hb (f2.cell hne 3 a3) hn 4 a4
end Go.Proofs.YtadjnfpomjopkaaGreat
