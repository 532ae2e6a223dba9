/- 'warder/warderlaw07.DeclOnes' returns true for every input and leaves its arguments as they were; no condition. The row lists package-level variables of Go's library with what they hold at the start; the card ties them to the program's text. -/
import Derived.Test.YthlofmnmacpogaaGreatDoorOn02
import Derived.Deep.Slices
import Derived.ChangeArms
import Derived.Test.YthlofmnmacpogaaGreatDoorOn49
import Derived.Test.YthlofmnmacpogaaGreatDoorCards
import Derived.Test.YthlofmnmacpogaaGreatDoorTie
import Derived.Test.YthlofmnmacpogaaGreatDoorOn19
import Derived.WalkKit
import Derived.ProofKit
import Derived.OpenShut
import Derived.ChangeOld
import Derived.Below
import Derived.ShutString
import Derived.Deep.DeepHandedRow
import Derived.Lay
import Derived.Stop.Joined
import Derived.MakeChecks
import Derived.SizedLaws
namespace Go.Proofs.YthlofmnmacpogaaGreatDoor
open Go.RowKit Go.ChangeShapes Go.WideShapes Go.Deep
section
variable {H:Type} {enc:TypeId × Value→H} {w:World} {base:Nat} {sp:Nat→Bool} {hd:Bool}
theorem cells_tok:Tryz.prog.cellsOf 48=5:=by kernel_rfl
theorem cells_pos:Tryz.prog.cellsOf 26=2:=by kernel_rfl
theorem cells_int:Tryz.prog.cellsOf 3=1:=by kernel_rfl
theorem cells_i64:Tryz.prog.cellsOf 2=1:=by kernel_rfl
theorem cells_str:Tryz.prog.cellsOf 9=1:=by kernel_rfl
set_option maxRecDepth 100000 in
theorem open_pos {fuel:Nat} {cs:List Value} {x:DataW H × List MemPlace} (h:DataW.trod enc Tryz.prog w base sp hd fuel 26 cs=some x):∃ l c:Int,cs= [.int .i64 l,.int .i64 c]:=by
 obtain⟨xs,n,_,_,hlen,hxl,hf⟩:=DataW.trod_struct Tryz.underlying26 h
 rw[cells_pos] at hlen
 match cs,hlen with
 | [v0,v1],_=>
   have hx0:=List.getElem?_eq_getElem (show 0 < xs.length by rw[hxl];decide)
   have hx1:=List.getElem?_eq_getElem (show 1 < xs.length by rw[hxl];decide)
   have g0:DataW.trod enc Tryz.prog w base sp hd n 3 (([v0,v1].drop 0).take (Tryz.prog.cellsOf 3))=xs[0]?:=hf 0 _ rfl
   have g1:DataW.trod enc Tryz.prog w base sp hd n 3 (([v0,v1].drop 1).take (Tryz.prog.cellsOf 3))=xs[1]?:=hf 1 _ rfl
   rw[hx0] at g0;rw[hx1] at g1
   simp only[cells_int,List.drop,List.take] at g0 g1
   obtain⟨a,e0,_,_⟩:=DataW.trod_int Tryz.underlying3 g0
   obtain⟨b,e1,_,_⟩:=DataW.trod_int Tryz.underlying3 g1
   simp only[List.cons.injEq,and_true] at e0 e1
   exact⟨a,b,by rw[e0,e1]⟩
set_option maxRecDepth 100000 in
theorem open_tok {fuel:Nat} {cs:List Value} {x:DataW H × List MemPlace} (h:DataW.trod enc Tryz.prog w base sp hd fuel 48 cs=some x):∃ t:Tk,cs=tkCells t:=by
 obtain⟨xs,n,_,_,hlen,hxl,hf⟩:=DataW.trod_struct Tryz.underlying48 h
 rw[cells_tok] at hlen
 match cs,hlen with
 | [v0,v1,v2,v3,v4],_=>
   have hx0:=List.getElem?_eq_getElem (show 0 < xs.length by rw[hxl];decide)
   have hx1:=List.getElem?_eq_getElem (show 1 < xs.length by rw[hxl];decide)
   have hx2:=List.getElem?_eq_getElem (show 2 < xs.length by rw[hxl];decide)
   have hx3:=List.getElem?_eq_getElem (show 3 < xs.length by rw[hxl];decide)
   have g0:DataW.trod enc Tryz.prog w base sp hd n 3 (([v0,v1,v2,v3,v4].drop 0).take (Tryz.prog.cellsOf 3))=xs[0]?:=hf 0 _ rfl
   have g1:DataW.trod enc Tryz.prog w base sp hd n 9 (([v0,v1,v2,v3,v4].drop 1).take (Tryz.prog.cellsOf 9))=xs[1]?:=hf 1 _ rfl
   have g2:DataW.trod enc Tryz.prog w base sp hd n 2 (([v0,v1,v2,v3,v4].drop 2).take (Tryz.prog.cellsOf 2))=xs[2]?:=hf 2 _ rfl
   have g3:DataW.trod enc Tryz.prog w base sp hd n 26 (([v0,v1,v2,v3,v4].drop 3).take (Tryz.prog.cellsOf 26))=xs[3]?:=hf 3 _ rfl
   rw[hx0] at g0;rw[hx1] at g1;rw[hx2] at g2;rw[hx3] at g3
   simp only[cells_int,cells_i64,cells_str,cells_pos,List.drop,List.take] at g0 g1 g2 g3
   obtain⟨a,e0,_,_⟩:=DataW.trod_int Tryz.underlying3 g0
   obtain⟨s,e1,_,_⟩:=DataW.trod_string Tryz.underlying9 g1
   obtain⟨b,e2,_,_⟩:=DataW.trod_int Tryz.underlying2 g2
   obtain⟨l,c,e3⟩:=open_pos g3
   simp only[List.cons.injEq,and_true] at e0 e1 e2 e3
   exact⟨⟨a,s,b,l,c⟩,by rw[e0,e1,e2,e3.1,e3.2];rfl⟩
instance:Inhabited Tk:=⟨noTk⟩
set_option maxRecDepth 100000 in
theorem open_toks {fuel:Nat} {ad:Option Addr} {n cap:Nat} {x:DataW H × List MemPlace} (h:DataW.trod enc Tryz.prog w base sp hd fuel 33 [.slice ad n cap]=some x) (hn:n≤1000000) :
 ∃ T:List Tk,T.length=n∧TkIn w w.heap.size (.slice ad n cap) T:=by
 rcases open_slice Tryz.underlying33 h with⟨he,_⟩ | ⟨a,len,c,m,k,D,Pl,he,hb,hl,hm,hmm,hx,hall⟩
 · simp only[List.cons.injEq,Value.slice.injEq,and_true] at he
   obtain⟨rfl,rfl,rfl⟩:=he
   exact⟨[],rfl,none,0,rfl,by simp,.inl rfl⟩
 · simp only[List.cons.injEq,Value.slice.injEq,and_true] at he
   obtain⟨rfl,rfl,rfl⟩:=he
   have hnm:n≤m:=by rw[hmm];split <;> omega
   have each:∀ i,i < n→∃ t:Tk,∀ j,j < 5→w.cell? (a.add (i * 5+j))= (tkCells t)[j]?:=by
    intro i hi
    obtain⟨cs,h1,h2⟩:=hall i (by omega)
    rw[cells_tok] at h1
    obtain⟨t,rfl⟩:=open_tok h2
    obtain⟨_,hlen,hcell⟩:=World.cells?_some h1
    refine⟨t,fun j hj=>?_⟩
    have:=hcell j hj
    rwa [add_add] at this
   obtain⟨t,ht⟩:=choose_lt each
   by_cases h0:n=0
   · subst h0
     exact⟨[],rfl,_,cap,rfl,by simp,.inl rfl⟩
   have hz:=ht 0 (by omega) 0 (by omega)
   obtain⟨b,off,spot⟩:=a
   have hspot:spot=none:=by simpa [Addr.add] using World.cell?_spot hz
   subst hspot
   have hadd:∀ i,(⟨b,off,none⟩:Addr).add i= ⟨b,off+i,none⟩:=fun i=>by unfold Addr.add;split <;> simp_all
   refine⟨(List.range n).map t,by simp,some ⟨b,off,none⟩,cap,by simp,by simpa using hn,.inr ⟨b,off,rfl,World.block_lt_of_cell? w _ (by rw[hadd] at hz;exact hz),World.block_lt_of_cell? w _ (by rw[hadd] at hz;exact hz),fun i y hy=>?_⟩⟩
   have hi:i < n:=by have:=(List.getElem?_eq_some_iff.1 hy).1;simpa using this
   have hy':y=t i:=by simpa [hi] using hy.symm
   subst hy'
   have e:=fun j hj=>ht i hi j hj
   simp only[hadd] at e
   have e0:=e 0 (by omega);have e1:=e 1 (by omega);have e2:=e 2 (by omega);have e3:=e 3 (by omega);have e4:=e 4 (by omega)
   simp only[tkCells,List.getElem?_cons_zero,List.getElem?_cons_succ,Nat.add_zero,←Nat.add_assoc] at e0 e1 e2 e3 e4
   exact⟨e0,e1,e2,e3,e4⟩
end
end Go.Proofs.YthlofmnmacpogaaGreatDoor
namespace Go.Proofs.YthlofmnmacpogaaGreatDoor.declOnes
open Go.ChangeShapes Go.WideShapes Go.ChangeAt Go.RowKit
theorem own:ownKnob Tryz.prog.godebug=none:=by kernel_rfl
theorem reads (os:Os) {H:Type} (enc:TypeId × Value→H):∃ places,DataW.whole enc Tryz.prog ((World.laidAll Tryz.prog os Rows.declOnesRow.laid).forCall (fun _ _=>0) ⟨#[],#[.slice none 0 0,.int .i64 0],[]⟩).memory Tryz.f4.params.toList Rows.declOnesSpec.vars false #[Value.slice none 0 0,Value.int .i64 0].toList 8=some ([.nil,.lit (.int .i64 0)],[],places):=
 ⟨[],by kernel_rfl⟩
theorem okIn (os:Os):Input.okWideB Tryz.prog ((World.laidAll Tryz.prog os Rows.declOnesRow.laid).forCall (fun _ _=>0) ⟨#[],#[.slice none 0 0,.int .i64 0],[]⟩) 4 ⟨#[],#[.slice none 0 0,.int .i64 0],[]⟩ = true:=by kernel_rfl
theorem laid_met (os:Os):laidMetH Tryz.prog Rows.declOnesRow.laid ((World.laidAll Tryz.prog os Rows.declOnesRow.laid).forCall (fun _ _=>0) ⟨#[],#[.slice none 0 0,.int .i64 0],[]⟩).memory:=by
 rw[MakeChecks.laidMetH_plain _ _ _ (by kernel_rfl)];exact laidMet_laidAll _ (by kernel_rfl) (by kernel_rfl)
set_option maxRecDepth 100000 in
theorem lifted (os:Os) (started:os.Started) (H:Type) (enc:TypeId × Value→H) (F:Stop.Interp) :
 ReturnsInHanded {} Tryz.checked os 4 .any ((OpenSpec.ofChange Rows.declOnesSpec).preRow enc Tryz.prog Tryz.f4 Rows.declOnesRow.domain false Rows.declOnesRow.laid) (((OpenSpec.ofChange Rows.declOnesSpec).at F).post enc Tryz.prog Tryz.f4 false true false false):=by
 obtain⟨places,hx⟩:=reads os enc
 refine returnsInHanded_of_row (C:=Tryz.checked) (s:=OpenSpec.ofChange Rows.declOnesSpec) own started (by kernel_rfl) Tryz.func4
  ⟨World.laidAll Tryz.prog os Rows.declOnesRow.laid,fun _ _=>0,⟨#[],#[.slice none 0 0,.int .i64 0],[]⟩,World.laidAll_os _ _ _,World.shaped_of_ZipB (by kernel_rfl) (by kernel_rfl),(Input.okWide_of_okWideB (base:=0) (okIn os)).1,(Input.okWide_of_okWideB (okIn os)).2,
    OpenSpec.preRow_of_cond 8 hx (by kernel_rfl) (fun k hk=>by cases hk) (by kernel_rfl) (laid_met os),by
     simp only[Assume.holds]
     exact⟨by simp,by simp,fun _=>Modest.zero,by simp,by simp⟩⟩ ?_
 intro W base args ds gs before hval0 hW _ _ hsz _ hsh _
 obtain⟨m,hm⟩:=Tryz.laysM144.s1_3 W hsh
 have hval:∀ (j:Nat) t v,Tryz.f4.params[j]?=some t→args[j]?=some v→Value.okWide Tryz.prog W .any base t v:=hval0
 have hW':=hW
 obtain⟨p,q,hA0,hV,rfl,hfz,hnd⟩:=hW
 have hA:DataW.TrodAll enc Tryz.prog W 0 (fun _=>true) true Tryz.f4.params.toList args.toList ds p:=hA0
 rw[Tryz.params4] at hA hval hsz
 obtain⟨v0,vs0,d0,ds0,p0,q0,hargs,rfl,rfl,h0,r0⟩:=trodAll_cons hA
 obtain⟨v1,vs1,d1,ds1,p1,q1,rfl,rfl,rfl,h1,r1⟩:=trodAll_cons r0
 obtain⟨rfl,rfl,rfl⟩:=trodAll_nil r1
 obtain rfl:args= #[v0,v1]:=by cases args;simp_all
 obtain⟨rfl,rfl⟩:=trodVars_none hV
 obtain⟨ad,len,cap,rfl⟩:=okWide_slice Tryz.underlying33 (hval 0 33 v0 rfl rfl)
 obtain⟨i,rfl,rfl,rfl,wi⟩:=open_int Tryz.underlying3 (hval 1 3 v1 rfl rfl) h1
 have k0:=h0
 have lt0:∀ x ∈ p0,x.block < W.heap.size:=by obtain⟨m,hm⟩:=k0;exact DataW.trod_lt m _ _ _ hm
 have hT:len≤400→∃ T:List Tk,T.length=len∧TkIn W W.heap.size (.slice ad len cap) T:=by
  intro hn
  obtain⟨fuel,hf⟩:=h0
  exact open_toks hf (by omega)
 clear hA0 hval0
 simp only[List.append_nil] at hW'
 refine(lawOnesCard_any ⟨m,hm⟩ ad len cap i hT).mono fun e W' ⟨he,hg⟩ =>?_
 subst he
 exact⟨_,rfl,_,_,_,[],_,[],hW',(trodAll_cons_mk (shut_bool Tryz.underlying4 _) trodAll_mk0),(trodAll_cons_mk (Below.trod (by kernel_rfl) (by kernel_rfl) (of_decide_eq_true (by kernel_rfl)) k0 hg lt0) (trodAll_cons_mk (shut_int Tryz.underlying3 wi) trodAll_mk0)),rfl,hg.frame _,fun h=>by cases h⟩
theorem said:Rows.DeclOnesSaid:=
 OpenClaim.holds_of_cond 4 Tryz.f4 rfl rfl rfl rfl rfl rfl rfl ⟨rfl,rfl,rfl,rfl,rfl⟩ rfl rfl rfl rfl rfl (by kernel_rfl) Tryz.func4 (by kernel_rfl)
  (of_decide_eq_true (by kernel_rfl)) (by unfold Func.isWrapper;first| (rw[if_pos (by decide +kernel)];kernel_rfl)| (rw[if_neg (by decide +kernel)];exact⟨rfl,rfl⟩))
  (fun os started H enc _ F=>by rw[OpenClaim.pre_eq_preRow];exact lifted os started H enc F)
theorem plain (f:FuncId) (fn:Func) (hf:Tryz.pinned.checked.prog.funcNamed "warder/warderlaw07.DeclOnes" = some f) (hfn:Tryz.pinned.checked.prog.funcs[f]?=some fn) :
 false=Tryz.pinned.checked.prog.looks []∧∀ (j:Nat) t,fn.params[j]?=some t→Tryz.pinned.checked.prog.wantsStandIn t=false:=by
 obtain rfl:f=4:=Option.some.inj ((show Tryz.prog.funcNamed "warder/warderlaw07.DeclOnes" = some 4 by kernel_rfl).symm.trans hf) |>.symm
 obtain rfl:fn=Tryz.f4:=(Option.some.inj (Tryz.func4.symm.trans hfn)).symm
 refine⟨by kernel_rfl,fun j t ht=>?_⟩
 rw[Tryz.params4] at ht
 have h3:t=33∨t=3:=by simpa using Array.mem_of_getElem? ht
 rcases h3 with rfl|rfl
 · exact(show Tryz.prog.wantsStandIn 33=false by kernel_rfl)
 · exact(show Tryz.prog.wantsStandIn 3=false by kernel_rfl)
theorem proved:Rows.DeclOnesCardSaid:=
 Claim7.holds_tied_plain_at .later [] _ _ _ _ said (fun _ h=>by cases h) (by kernel_rfl) (fun _ h=>by cases h) declOnes_row_tie rfl ⟨rfl,rfl⟩ (by kernel_rfl) rfl plain (by kernel_rfl)
end Go.Proofs.YthlofmnmacpogaaGreatDoor.declOnes
