import Derived.Test.YtkkoooagamadjaaGreatDoorPk43
import Derived.Test.YtkkoooagamadjaaGreatDoorPk11
import Derived.Test.YtkkoooagamadjaaGreatDoorPk27
import Derived.Test.YtkkoooagamadjaaGreatDoorPk38
import Derived.Test.YtkkoooagamadjaaGreatDoorPk21
namespace Go.Proofs.YtkkoooagamadjaaGreatDoor
open Go.RowKit Go.Shelf
def RdN (W:World) (bo k:Nat) (v:Value) (n:Nat) (xs:List Value):Prop:=
 ∃ ad cap,v=.slice ad n cap∧xs.length=n * k∧(n=0∨∃ b off,ad=some ⟨b,off,none⟩∧b < W.heap.size∧b≠bo∧b≠bo+1∧∀ t x,xs[t]?=some x→W.cell? ⟨b,off+t,none⟩ = some x)
theorem RdN.rd {W:World} {bo k n:Nat} {v:Value} {xs:List Value} (h:RdN W bo k v n xs):RdK W k v n xs:=by
 obtain⟨ad,cap,hv,hl,h⟩:=h
 refine⟨ad,cap,hv,hl,?_⟩
 rcases h with h| ⟨b,off,ha,h1,_,_,hc⟩
 · exact .inl h
 · exact .inr ⟨b,off,ha,h1,hc⟩
theorem RdN.of_rd {w W:World} {k n:Nat} {v:Value} {xs:List Value} (h:RdK w k v n xs) (hb:Below w.heap.size w W):RdN W w.heap.size k v n xs:=by
 obtain⟨ad,cap,hv,hl,h⟩:=h
 refine⟨ad,cap,hv,hl,?_⟩
 rcases h with h| ⟨b,off,ha,h1,hc⟩
 · exact .inl h
 · exact .inr ⟨b,off,ha,Nat.lt_of_lt_of_le h1 hb.size,by omega,by omega,fun t x hx=>(hb.cell (p:=⟨b,off+t,none⟩) h1).trans (hc t x hx)⟩
theorem RdN.below {W W':World} {bo k n:Nat} {v:Value} {xs:List Value} (h:RdN W bo k v n xs) (hb:Below W.heap.size W W'):RdN W' bo k v n xs:=by
 obtain⟨ad,cap,hv,hl,h⟩:=h
 refine⟨ad,cap,hv,hl,?_⟩
 rcases h with h| ⟨b,off,ha,h1,h2,h3,hc⟩
 · exact .inl h
 · exact .inr ⟨b,off,ha,Nat.lt_of_lt_of_le h1 hb.size,h2,h3,fun t x hx=>(hb.cell (p:=⟨b,off+t,none⟩) h1).trans (hc t x hx)⟩
theorem RdN.set {W:World} {bo k n q:Nat} {v:Value} {xs:List Value} (h:RdN W bo k v n xs) (hq:q=bo∨q=bo+1) (j:Nat) (u:Value):RdN (W.setCell ⟨q,j,none⟩ u) bo k v n xs:=by
 obtain⟨ad,cap,hv,hl,h⟩:=h
 refine⟨ad,cap,hv,hl,?_⟩
 rcases h with h| ⟨b,off,ha,h1,h2,h3,hc⟩
 · exact .inl h
 · exact .inr ⟨b,off,ha,by simpa [World.setCell] using h1,h2,h3,fun t x hx=>(World.cell?_of_block (a:=⟨b,off+t,none⟩) (Below.heap_setCell W ⟨q,j,none⟩ u b (by simp only;omega))).trans (hc t x hx)⟩
theorem RdN.of_owns {W:World} {bo base k n:Nat} {e t:TypeId} {v:Value} {xs:List Value} {cs cs':Array Value} (h:W.ownsRow base e k v n xs) (h1:Blk W bo cs t) (h2:Blk W (bo+1) cs' t) (ht:t≠e):RdN W bo k v n xs:=by
 have hr:=RdK.of_owns h
 obtain⟨ad,cap,hv,hl,hr⟩:=hr
 refine⟨ad,cap,hv,hl,?_⟩
 rcases hr with hr| ⟨b,off,ha,h3,hc⟩
 · exact .inl hr
 · have n1:=h1.row_ne h ht
   have n2:=h2.row_ne h ht
   rw[hv,ha] at n1 n2
   exact .inr ⟨b,off,ha,h3,fun e=>n1 (by simp[Value.ownBlock,e]),fun e=>n2 (by simp[Value.ownBlock,e]),hc⟩
structure DS (w:World) (c1 c2:Value) (cl:List (Int × Int)) (gl:List Int) (W:World):Prop where
 z:Blk W w.heap.size #[c1,c2] 28
 res:Blk W (w.heap.size+1) #[.slice none 0 0,.slice none 0 0] 28
 rc:RdN W w.heap.size 2 c1 cl.length (cellsP cl)
 rg:RdN W w.heap.size 1 c2 gl.length (ints gl)
 low:Below w.heap.size w W
 cc:CapV c1
theorem DS.below {w W W':World} {c1 c2:Value} {cl:List (Int × Int)} {gl:List Int} (h:DS w c1 c2 cl gl W) (hb:Below W.heap.size W W'):DS w c1 c2 cl gl W':=
 ⟨h.z.keep hb,h.res.keep hb,h.rc.below hb,h.rg.below hb,h.low.trans (hb.mono h.low.size),h.cc⟩
theorem DS.zin {w W:World} {c1 c2:Value} {cl:List (Int × Int)} {gl:List Int} (h:DS w c1 c2 cl gl W):ZoneIn W c1 c2 cl gl:=⟨h.rc.rd,h.rg.rd⟩
theorem DS.facts {w W:World} {c1 c2:Value} {cl:List (Int × Int)} {gl:List Int} (h:DS w c1 c2 cl gl W) :
 W.cell? ⟨w.heap.size,0,none⟩ = some c1∧W.cell? ⟨w.heap.size,1,none⟩ = some c2∧W.frozen? ⟨w.heap.size,0,none⟩ = false∧W.frozen? ⟨w.heap.size,1,none⟩ = false∧w.heap.size+1 < W.heap.size:=
 ⟨h.z.two.1,h.z.two.2,h.z.free 0,h.z.free 1,h.res.lt⟩
theorem DS.turn {w W:World} {c1 c2 d1 d2:Value} {cl cl':List (Int × Int)} {gl gl':List Int} (h:DS w c1 c2 cl gl W) (h1:RdN W w.heap.size 2 d1 cl'.length (cellsP cl')) (h2:RdN W w.heap.size 1 d2 gl'.length (ints gl')) (h3:CapV d1) :
 DS w d1 d2 cl' gl' ((W.setCell ⟨w.heap.size,0,none⟩ d1).setCell ⟨w.heap.size,1,none⟩ d2):=
 ⟨h.z.put2 d1 d2,h.res.over2 (by omega) d1 d2,(h1.set (.inl rfl) 0 _).set (.inl rfl) 1 _,(h2.set (.inl rfl) 0 _).set (.inl rfl) 1 _,
   (h.low.setCell (p:=⟨w.heap.size,0,none⟩) (Nat.le_refl _) _).setCell (p:=⟨w.heap.size,1,none⟩) (Nat.le_refl _) _,h3⟩
def lenC (bo:Nat) (W:World):Nat:=
 match W.cell? ⟨bo,0,none⟩ with
 | some (.slice _ n _)=>n
 | _=>0
theorem DS.len {w W:World} {c2:Value} {ad:Option Addr} {n k:Nat} {cl:List (Int × Int)} {gl:List Int} (h:DS w (.slice ad n k) c2 cl gl W):lenC w.heap.size W=n:=by
 unfold lenC;rw[h.facts.1]
theorem drp_skip (a r:Int) (cl:List (Int × Int)) (gl:List Int) (f k:Nat) (x y:Int) (h:cl[k]?=some (x,y)) (hx:hasB x a=false):drpS a r (f+1) (cl,gl) k=drpS a r f (cl,gl) (k+1):=by
 have:=(List.getElem?_eq_some_iff.1 h).1
 conv=>lhs;unfold drpS
 rw[if_neg (by dsimp only;omega)]
 dsimp only
 rw[getD_cls h,if_pos hx]
theorem drp_stay (a r:Int) (cl:List (Int × Int)) (gl:List Int) (f k:Nat) (x y:Int) (h:cl[k]?=some (x,y)) (hx:hasB x a=true) (hb:¬(putZ x a false=0∧y= -1)):drpS a r (f+1) (cl,gl) k=drpS a r f (cl.set k (putZ x a false,y),gl) (k+1):=by
 have:=(List.getElem?_eq_some_iff.1 h).1
 conv=>lhs;unfold drpS
 rw[if_neg (by dsimp only;omega)]
 dsimp only
 rw[getD_cls h,if_neg (by rw[hx];decide),if_neg hb]
theorem drp_go (a r:Int) (cl:List (Int × Int)) (gl:List Int) (f k:Nat) (x y:Int) (h:cl[k]?=some (x,y)) (hx:hasB x a=true) (hb:putZ x a false=0∧y= -1):drpS a r (f+1) (cl,gl) k=drpS a r f (woS (cl.set k (putZ x a false,y)) gl k r cl.length) k:=by
 have:=(List.getElem?_eq_some_iff.1 h).1
 conv=>lhs;unfold drpS
 rw[if_neg (by dsimp only;omega)]
 dsimp only
 rw[getD_cls h,if_neg (by rw[hx];decide),if_pos hb]
theorem woS_ok (cl:List (Int × Int)) (gl:List Int) (i:Nat) (r:Int) (h:∀ c ∈ cl,ClsOK c):∀ k,k≤cl.length→∀ c ∈ (woS cl gl i r k).1,ClsOK c:=by
 intro k
 induction k with
 | zero=>intro _ c hc;simp[woS] at hc
 | succ k ih=>
   intro hk c hc
   unfold woS at hc
   split at hc
   · exact ih (by omega) c hc
   · dsimp only at hc
     rcases List.mem_append.1 hc with hc|hc
     · exact ih (by omega) c hc
     · simp only[List.mem_cons,List.not_mem_nil,or_false] at hc
       rw[hc,List.getD_eq_getElem?_getD,List.getElem?_eq_getElem (by omega)]
       exact h _ (List.getElem_mem _)
set_option maxRecDepth 100000 in
set_option maxHeartbeats 4000000 in
theorem rdrop23_any {w:World} {v1 v2:Value} {cl0:List (Int × Int)} {gl0:List Int} (a r:Int) (hz:ZoneIn w v1 v2 cl0 gl0) (hcv:CapV v1) (hgl:gl0.length=cl0.length - 1) (hcl:cl0.length≤1000) (hxb:∀ c ∈ cl0,ClsOK c) :
 Calls Tryz.prog 40 #[.agg #[v1,v2],.int .i64 a,.int .i64 r] w fun e w'=>∃ c1 c2,e=.returned (.agg #[c1,c2])∧ZoneIn w' c1 c2 (drpZ a r (cl0,gl0)).1 (drpZ a r (cl0,gl0)).2∧CapV c1∧Below w.heap.size w w':=by
 obtain⟨ad1,k1,e1⟩:=hz.1.len
 obtain⟨ad2,k2,e2⟩:=hz.2.len
 obtain⟨n,hn⟩:∃ n,cl0.length=n:=⟨_,rfl⟩
 obtain⟨m,hm⟩:∃ m,gl0.length=m:=⟨_,rfl⟩
 rw[hn] at e1 hcl hgl;rw[hm] at e2 hgl
 subst e1;subst e2
 have HZ:=Lib.hid hz;have HN:=Lib.hid hn;have HM:=Lib.hid hm;have HGL:=Lib.hid hgl;have HXB:=Lib.hid hxb
 obtain⟨W1,hW1⟩:∃ W1,w.alloc (.cells #[.slice ad1 n k1,.slice ad2 m k2] 28)=W1:=⟨_,rfl⟩
 have hs1:W1.heap.size=w.heap.size+1:=by rw[←hW1];simp
 obtain⟨W2,hW2⟩:∃ W2,W1.alloc (.cells #[.slice none 0 0,.slice none 0 0] 28)=W2:=⟨_,rfl⟩
 have hb2:Below w.heap.size w W2:=by
  rw[←hW2,←hW1];exact((Below.refl _ w).alloc (Nat.le_refl _) _).alloc (by simp) _
 have h0:DS w (.slice ad1 n k1) (.slice ad2 m k2) cl0 gl0 W2:=by
  refine⟨?_,?_,RdN.of_rd hz.1 hb2,RdN.of_rd hz.2 hb2,hb2,hcv⟩
  · rw[←hW2,←hW1];exact(Blk.new _ _ _).alloc _
  · rw[←hW2,←hs1];exact Blk.new _ _ _
 have H0:=Lib.hid h0
 have HR:Hid (drpZ a r (cl0,gl0)=drpS a r n (cl0,gl0) 0):=by unfold Hid drpZ;rw[←hn]
 obtain⟨c0,c1,c2,c3,c4⟩:=h0.facts
 clear hz hb2 h0 hn hm hgl hxb hcv
 go_enter Tryz.func40,Tryz.ntmps40
 go_upto_if 17 with fail
 go_cut [1,2,3,6] (fun s1 s2 s3 s6 wx=>s1=.int .i64 a∧s2=.int .i64 r∧s3=.pointer (some ⟨w.heap.size,0,none⟩)∧s6=.pointer (some ⟨w.heap.size+1,0,none⟩)∧wx=W2)
 case first=>
  have hcase:n=0∨1≤n:=by omega
  rcases hcase with h|h
  · have hm0:m=0:=by have:=HGL.out;omega
    subst h;subst hm0
    go_wp2_with fail
    go_meet
    exact⟨rfl,rfl,rfl,rfl,rfl⟩
  · have hm1: (n:Int) - 1= (m:Int):=by have:=HGL.out;omega
    go_wp2_with fail
    go_meet
    exact⟨rfl,rfl,rfl,rfl,rfl⟩
 case rest=>
  clear c0 c1 c2 c3 c4
  obtain⟨rfl,rfl,rfl,rfl,rfl⟩:=hcut
  have hn0:Hid (cl0.length=n):=HN
  go_wp2_with fail
  go_loopw [7] (fun i wr=>∃ (k f:Nat) (d1 d2:Value) (cl:List (Int × Int)) (gl:List Int),i=.int .i64 k∧k≤cl.length∧cl.length - k≤f∧cl.length≤1000∧Hid (drpZ a r (cl0,gl0)=drpS a r f (cl,gl) k)∧Hid (gl.length=cl.length - 1)∧Hid (∀ c ∈ cl,ClsOK c)∧Hid (DS w d1 d2 cl gl wr)) (fun i wr=>lenC w.heap.size wr - (intOf i).toNat)
  case atStart=>exact⟨0,n,_,_,cl0,gl0,rfl,Nat.zero_le _,by rw[HN.out];omega,by rw[HN.out];exact hcl,HR,by unfold Hid;rw[HN.out,HM.out];exact HGL.out,HXB,H0⟩
  case round=>
   clear HN HM HGL HXB H0 HR HZ hn0 hcl
   obtain⟨k,f,d1,d2,cl,gl,rfl,hk,hf,hcl,HD,HG,HXC,HS⟩:=hrel
   obtain⟨ad1,k1,e1⟩:=HS.out.rc.rd.len
   obtain⟨ad2,k2,e2⟩:=HS.out.rg.rd.len
   obtain⟨p,hp⟩:∃ n,cl.length=n:=⟨_,rfl⟩
   obtain⟨q,hq⟩:∃ m,gl.length=m:=⟨_,rfl⟩
   rw[hp] at e1 hk hf hcl HG;rw[hq] at e2 HG
   subst e1;subst e2
   have HP:=Lib.hid hp;have HQ:=Lib.hid hq
   obtain⟨c0,c1,c2,c3,c4⟩:=HS.out.facts
   have HLEN:=Lib.hid HS.out.len
   clear hp hq
   by_cases hlt:k < p
   · have hkn: (k:Int) < (p:Int):=by omega
     obtain⟨xy,hxy⟩:∃ xy,cl[k]?=some xy:=⟨_,List.getElem?_eq_getElem (by rw[HP.out];exact hlt)⟩
     obtain⟨x,y⟩:=xy
     have hzr:=HS.out.rc.rd
     rw[HP.out] at hzr
     obtain⟨b',o',rfl,_,d0,d1⟩:=hzr.cls hxy (by omega)
     obtain⟨⟨hx0,hx1⟩,hy⟩:=HXC.out (x,y) (List.mem_of_getElem? hxy)
     dsimp only at hx0 hx1 hy
     obtain⟨f',rfl⟩:∃ g,f=g+1:=⟨f - 1,by omega⟩
     have HXY:=Lib.hid hxy
     have HY:=Lib.hid hy
     have HHA:=Lib.hid (rhas_any x a wr hx0 hx1)
     obtain⟨hs,hhs⟩:∃ hs,hasB x a=hs:=⟨_,rfl⟩
     rw[hhs] at HHA
     have HHS:=Lib.hid hhs
     clear hxy hzr hhs hy
     go_wp2_with fail
     refine HHA.out.mono ?_
     rintro e w' ⟨rfl,rfl⟩
     clear HHA
     cases hs
     · have HD2:Hid (drpZ a r (cl0,gl0)=drpS a r f' (cl,gl) (k+1)):=by unfold Hid;rw[HD.out,drp_skip a r cl gl f' k x y HXY.out HHS.out]
       go_wp2_with fail
       go_roundw
       case rel=>exact⟨k+1,f',_,_,cl,gl,by go_num,by rw[HP.out];omega,by rw[HP.out];omega,by rw[HP.out];exact hcl,HD2,by unfold Hid;rw[HP.out,HQ.out];exact HG.out,HXC,HS⟩
       case measure=>rw[HLEN.out];simp[intOf];omega
     · obtain⟨W3,hW3⟩:∃ W3,wr.alloc (.cells #[] 47)=W3:=⟨_,rfl⟩
       have hb3:Below wr.heap.size wr W3:=by rw[←hW3];exact(Below.refl _ wr).alloc (Nat.le_refl _) _
       have own0:W3.ownsRow wr.heap.size 47 2 (.slice (some ⟨wr.heap.size,0,none⟩) 0 0) 0 []:=by
        rw[←hW3];exact World.ownsRow_lit wr #[] 0 (Nat.le_refl _) (Nat.zero_le _) rfl
       have ds3:=HS.out.below hb3
       have hr3:=ds3.rc.rd
       rw[HP.out] at hr3
       obtain⟨e0,e1,e2,e3,e4⟩:=ds3.facts
       have HB3:=Lib.hid hb3;have HO0:=Lib.hid own0;have HR3:=Lib.hid hr3
       have hws3:=hb3.size
       clear hb3 own0 ds3 hr3 d0 d1
       go_wp2_with (first
        | (at_builtin
           refine wpList_appX W3 rfl _ _ 25 rfl 47 (.agg #[.int .i64 0,.int .i64 0]) 2 16 wr.heap.size Tryz.underlying25 info_class rfl (by decide) (by decide) (.slice (some ⟨wr.heap.size,0,none⟩) 0 0) 0 [] rfl HO0.out p (cellsP cl) ⟨_,rfl,HR3.out⟩ (cellsP_one _) (by omega) hws3 ?_
           intro v' w5 ho5 hg5
           have hb5:=HB3.out.grown hg5 HB3.out.size (fun k e=>by simp[Value.ownBlock] at e;omega)
           rw[Nat.zero_add,List.nil_append] at ho5
           obtain⟨g5,cap5,hv',hg5a,hg5b⟩:=owns_shape ho5 (by omega)
           subst hv'
           have d0:w5.cell? ⟨g5,k * 2,none⟩ = some (.int .i64 x):=by rw[ho5.cellAt _ (by omega)];exact(cellsP_get _ _ _ HXY.out).1
           have HB5:=Lib.hid hb5;have HO5:=Lib.hid ho5
           clear hb5 ho5 hg5)
        | fail)
       have HPT:=Lib.hid (put_any x a false w5 hx0 hx1)
       obtain⟨bb,hbb⟩:∃ bb,putZ x a false=bb:=⟨_,rfl⟩
       have HBB:=Lib.hid hbb
       rw[hbb] at HPT
       have hbd:=putZ_bd x a false
       rw[hbb] at hbd
       clear hbb
       with_reducible refine HPT.out.mono ?_
       rintro e w6 ⟨rfl,hb6⟩
       have o6:=owns_below HO5.out hb6
       have hb60:=HB5.out.trans (hb6.mono HB5.out.size)
       have f0:w6.cell? ⟨g5,k * 2,none⟩ = some (.int .i64 x):=by
        rw[o6.cellAt _ (by omega)];exact(cellsP_get _ _ _ HXY.out).1
       have f1:=owns_frozen o6 (k * 2)
       have hg6:g5 < w6.heap.size:=Nat.lt_of_lt_of_le hg5b hb6.size
       have o7:=owns_set o6 (k * 2) (.int .i64 bb)
       have hb7:Below wr.heap.size wr (w6.setCell ⟨g5,k * 2,none⟩ (.int .i64 bb)):=hb60.setCell (p:=⟨g5,k * 2,none⟩) hg5a _
       rw[←cellsP_set1 _ _ _ _ _ HXY.out] at o7
       have hX2: (cl.set k (bb,y))[k]?=some (bb,y):=by rw[List.getElem?_set_self (by rw[HP.out];exact hlt)]
       have hP2: (cl.set k (bb,y)).length=p:=by rw[List.length_set,HP.out]
       have HXC2:Hid (∀ c ∈ cl.set k (bb,y),ClsOK c):=by
        unfold Hid
        intro c hc
        rcases List.mem_or_eq_of_mem_set hc with hc|hc
        · exact HXC.out c hc
        · rw[hc];exact⟨⟨by dsimp only;omega,by dsimp only;omega⟩,HY.out⟩
       have HDA:Hid (¬(bb=0∧y= -1)→drpZ a r (cl0,gl0)=drpS a r f' (cl.set k (bb,y),gl) (k+1)):=by
        unfold Hid;intro h;rw[HD.out,←HBB.out];exact drp_stay a r cl gl f' k x y HXY.out HHS.out (by rw[HBB.out];exact h)
       have HDB:Hid (bb=0∧y= -1→drpZ a r (cl0,gl0)=drpS a r f' (woS (cl.set k (bb,y)) gl k r p) k):=by
        unfold Hid;intro h;rw[HD.out,←HP.out,←HBB.out];exact drp_go a r cl gl f' k x y HXY.out HHS.out (by rw[HBB.out];exact h)
       obtain⟨C2,hC2⟩:∃ C2,cl.set k (bb,y)=C2:=⟨_,rfl⟩
       rw[hC2] at o7 hX2 hP2 HXC2 HDA HDB
       obtain⟨w7,hw7⟩:∃ w7,w6.setCell ⟨g5,k * 2,none⟩ (.int .i64 bb)=w7:=⟨_,rfl⟩
       rw[hw7] at o7 hb7
       have ds7:=HS.out.below hb7
       obtain⟨h0,h1,h2,h3,h4⟩:=ds7.facts
       have rc8:RdN w7 w.heap.size 2 (.slice (some ⟨g5,0,none⟩) p cap5) C2.length (cellsP C2):=by rw[hP2];exact RdN.of_owns o7 ds7.z ds7.res (by decide)
       have ds8:=ds7.turn rc8 ds7.rg (CapV.of_owns o7)
       have o8:=ownsRow_setCell_other (a:=⟨w.heap.size,1,none⟩) (ownsRow_setCell_other (a:=⟨w.heap.size,0,none⟩) o7 (ds7.z.row_ne o7 (by decide)) (.slice (some ⟨g5,0,none⟩) p cap5)) ((ds7.z.row_ne o7 (by decide))) (.slice ad2 q k2)
       obtain⟨w8,hw8⟩:∃ W,(w7.setCell ⟨w.heap.size,0,none⟩ (.slice (some ⟨g5,0,none⟩) p cap5)).setCell ⟨w.heap.size,1,none⟩ (.slice ad2 q k2)=W:=⟨_,rfl⟩
       rw[hw8] at ds8 o8
       have g0:w8.cell? ⟨g5,k * 2,none⟩ = some (.int .i64 bb):=by rw[o8.cellAt _ (by omega)];exact(cellsP_get _ _ _ hX2).1
       have g1:w8.cell? ⟨g5,k * 2+1,none⟩ = some (.int .i64 y):=by rw[o8.cellAt _ (by omega)];exact(cellsP_get _ _ _ hX2).2
       obtain⟨i0,i1,i2,i3,i4⟩:=ds8.facts
       have HS8:=Lib.hid ds8
       have HP2:=Lib.hid hP2
       have HX2:=Lib.hid hX2
       have HLEN8:=Lib.hid ds8.len
       clear hb6 o6 hb60 o7 hb7 hC2 ds7 rc8 ds8 o8 HPT HO5 HB5 HO0 HR3 HB3 HBB hX2 hP2 e0 e1 e2 e3 e4 c0 c1 c2 c3 d0 HS HD HXC HXY
       by_cases hb0:bb=0
       · by_cases hy1:y= -1
         · have HDC:=Lib.hid (HDB.out ⟨hb0,hy1⟩)
           subst hb0;subst hy1
           have HW:=Lib.hid (rwithout_any k r HS8.out.zin (by rw[HP2.out];exact hlt) (by rw[HQ.out,HP2.out];exact HG.out) (by rw[HP2.out];exact hcl))
           rw[HP2.out] at HW
           have hwl:=woS_len C2 gl k r p
           rw[if_neg (by omega)] at hwl
           have hwok:=woS_ok C2 gl k r HXC2.out p (by rw[HP2.out];exact Nat.le_refl _)
           obtain⟨zw,hzw⟩:∃ zw,woS C2 gl k r p=zw:=⟨_,rfl⟩
           rw[hzw] at HW HDC hwl hwok
           obtain⟨zc,zg⟩:=zw
           dsimp only at HW hwl hwok
           have HWL:=Lib.hid hwl
           have HWOK:=Lib.hid hwok
           clear hwl hwok hzw HDA HDB
           go_wp2_with fail
           refine HW.out.mono ?_
           rintro e w9 ⟨t1,t2,rfl,zz,hb9⟩
           obtain⟨a1,q1,ev1⟩:=owns_len zz.1
           obtain⟨a2,q2,ev2⟩:=owns_len zz.2
           subst ev1;subst ev2
           have ds9:=HS8.out.below hb9
           obtain⟨j0,j1,j2,j3,j4⟩:=ds9.facts
           have ds10:=ds9.turn (RdN.of_owns zz.1 ds9.z ds9.res (by decide)) (RdN.of_owns zz.2 ds9.z ds9.res (by decide)) (CapV.of_owns zz.1)
           have HS10:=Lib.hid ds10
           have HLEN10:=Lib.hid ds10.len
           clear zz hb9 ds9 ds10
           go_wp2_with fail
           go_roundw
           case rel=>exact⟨k,f',_,_,zc,zg,rfl,by rw[HWL.out.1];omega,by rw[HWL.out.1];omega,by rw[HWL.out.1];omega,HDC,HWL.out.2,HWOK,HS10⟩
           case measure=>rw[HLEN10.out,HLEN.out,HWL.out.1];simp[intOf];omega
         · have HDC:=Lib.hid (HDA.out (fun h=>hy1 h.2))
           subst hb0
           clear HDA HDB
           go_wp2_with fail
           go_roundw
           case rel=>exact⟨k+1,f',_,_,C2,gl,by go_num,by rw[HP2.out];omega,by rw[HP2.out];omega,by rw[HP2.out];exact hcl,HDC,by unfold Hid;rw[HP2.out,HQ.out];exact HG.out,HXC2,HS8⟩
           case measure=>rw[HLEN8.out,HLEN.out];simp[intOf];omega
       · have HDC:=Lib.hid (HDA.out (fun h=>hb0 h.1))
         clear HDA HDB
         go_wp2_with fail
         go_roundw
         case rel=>exact⟨k+1,f',_,_,C2,gl,by go_num,by rw[HP2.out];omega,by rw[HP2.out];omega,by rw[HP2.out];exact hcl,HDC,by unfold Hid;rw[HP2.out,HQ.out];exact HG.out,HXC2,HS8⟩
         case measure=>rw[HLEN8.out,HLEN.out];simp[intOf];omega
   · obtain rfl:k=p:=by omega
     have HD2:Hid (drpZ a r (cl0,gl0)= (cl,gl)):=by
      unfold Hid
      rw[HD.out]
      exact drpS_none a r (cl,gl) f k (fun j h1 h2=>by dsimp only at h2;rw[HP.out] at h2;omega)
     have r0:=HS.out.res.two.1;have r1:=HS.out.res.two.2
     have r2:=HS.out.res.free 0;have r3:=HS.out.res.free 1
     go_wp2
     have v1:=HS.out.res.put2 (.slice ad1 k k1) (.slice ad2 q k2)
     have e0:=v1.two.1;have e1:=v1.two.2
     refine bodyPost_ret (v:=.agg #[.slice ad1 k k1,.slice ad2 q k2]) (by simp[results,Tryz.results40,go_sem,e0,e1]) rfl ?_
     refine⟨_,_,rfl,?_,HS.out.cc,(HS.out.low.setCell (p:=⟨w.heap.size+1,0,none⟩) (Nat.le_succ _) _).setCell (p:=⟨w.heap.size+1,1,none⟩) (Nat.le_succ _) _⟩
     rw[HD2.out]
     exact⟨((HS.out.rc.set (.inr rfl) 0 _).set (.inr rfl) 1 _).rd,((HS.out.rg.set (.inr rfl) 0 _).set (.inr rfl) 1 _).rd⟩
end Go.Proofs.YtkkoooagamadjaaGreatDoor
namespace Go.Proofs.YtkkoooagamadjaaGreatDoor
open Go.RowKit Go.Shelf
theorem w64_next (r:Int) (k:Nat):w64 (w64 (r - k) - 1)=w64 (r - ((k+1:Nat):Int)):=by
 unfold w64
 rw[IntKind.wrap_i64,IntKind.wrap_i64,IntKind.wrap_i64]
 omega
theorem dropGo_ok (a r:Int):∀ (f i:Nat) (cl:List (Int × Int)) (gl:List Int),(∀ c ∈ cl,ClsOK c)→∀ c ∈ (dropGo a r f i cl gl).1,ClsOK c
 | 0,_,_,_,h=>h
 | f+1,i,cl,gl,h=>by
   have hg:ClsOK (cl.getD i (0,0)):=by
    rw[List.getD_eq_getElem?_getD]
    cases hx:cl[i]? with
    | none=>exact⟨⟨by decide,by decide⟩,⟨by decide,by decide⟩⟩
    | some x=>exact h x (List.mem_of_getElem? hx)
   have hs:∀ c ∈ cl.set i (putZ (cl.getD i (0,0)).1 a false,(cl.getD i (0,0)).2),ClsOK c:=by
    intro c hc
    rcases List.mem_or_eq_of_mem_set hc with hc|hc
    · exact h c hc
    · have hb:=putZ_bd (cl.getD i (0,0)).1 a false
      rw[hc];exact⟨⟨by dsimp only;omega,by dsimp only;omega⟩,hg.2⟩
   rw[dropGo]
   split
   · exact dropGo_ok a r f (i+1) cl gl h
   · split
     · exact dropGo_ok a r f i _ _ (fun c hc=>hs c (List.mem_of_mem_eraseIdx hc))
     · exact dropGo_ok a r f (i+1) _ gl hs
theorem dropZ_ok (a r:Int) (z:Zn) (h:∀ c ∈ z.1,ClsOK c):∀ c ∈ (dropZ a r z.1 z.2).1,ClsOK c:=by
 unfold dropZ
 split
 · exact dropGo_ok a r _ 0 _ _ h
 · exact h
set_option maxRecDepth 100000 in
set_option maxHeartbeats 4000000 in
theorem rwriteG_any {w:World} {v1 v2 lv:Value} {z:Zn} {l:List Int} (r:Int) (hz:ZoneIn w v1 v2 z.1 z.2) (hcv:CapV v1∧CapV v2) (hlv:RdK w 1 lv l.length (ints l)) (hl:l.length≤100) (hr0:-9223372036854775808≤r) (hr1:r≤9223372036854775807) (hok:WrG r l [z]) :
 Calls Tryz.prog 38 #[.agg #[v1,v2],lv,.int .i64 r] w fun e w'=>∃ v',e=.returned v'∧ZIs w' v' (writeG r l [z])∧Below w.heap.size w w':=by
 obtain⟨ad1,k1,e1⟩:=hz.1.len
 obtain⟨ad2,k2,e2⟩:=hz.2.len
 obtain⟨la,lc,e3⟩:=hlv.len
 obtain⟨n,hn⟩:∃ n,l.length=n:=⟨_,rfl⟩
 rw[hn] at e3 hl
 subst e1;subst e2;subst e3
 obtain⟨W1,hW1⟩:∃ W1,w.alloc (.cells #[.slice ad1 z.1.length k1,.slice ad2 z.2.length k2] 28)=W1:=⟨_,rfl⟩
 have hs1:W1.heap.size=w.heap.size+1:=by rw[←hW1];simp
 have hb1:Below w.heap.size w W1:=by rw[←hW1];exact(Below.refl _ _).alloc (Nat.le_refl _) _
 have x1:Blk W1 w.heap.size #[.slice ad1 z.1.length k1,.slice ad2 z.2.length k2] 28:=by rw[←hW1];exact Blk.new _ _ _
 obtain⟨W2,hW2⟩:∃ W2,W1.alloc (.cells #[.slice ad1 z.1.length k1,.slice ad2 z.2.length k2] 28)=W2:=⟨_,rfl⟩
 have hb12:Below W1.heap.size W1 W2:=by rw[←hW2];exact(Below.refl _ _).alloc (Nat.le_refl _) _
 have hb2:Below w.heap.size w W2:=hb1.trans (hb12.mono hb1.size)
 have c0:=x1.two.1;have c1:=x1.two.2
 have hzi:ZIs W2 (.slice (some ⟨W1.heap.size,0,none⟩) 1 1) [z]:=by
  refine⟨[(.slice ad1 z.1.length k1,.slice ad2 z.2.length k2)],rfl,⟨_,_,rfl,rfl,.inr ⟨W1.heap.size,0,rfl,by rw[←hW2];simp,fun t x hx=>?_⟩⟩,fun i p y h1 h2=>?_⟩
  · rw[←hW2,World.cell?_alloc_at _ _ _ _ (by simp)]
    simpa [zcells] using hx
  · have hi:=(List.getElem?_eq_some_iff.1 h1).1
    simp only[List.length_cons,List.length_nil] at hi
    obtain rfl:i=0:=by omega
    simp only[List.getElem?_cons_zero,Option.some.injEq] at h1 h2
    subst h1;subst h2
    exact⟨hz.below hb2,hcv⟩
 clear hcv
 have hw0:w64 (r - ((0:Nat):Int))=r:=by rw[show r - ((0:Nat):Int)=r by omega];exact w64_in r hr0 hr1
 have HW0:=Lib.hid hw0
 have HZI:=Lib.hid hzi
 have HB2:=Lib.hid hb2
 have HLV:=Lib.hid hlv
 have HN:=Lib.hid hn;have HOK:=Lib.hid hok
 clear hz hlv hn hok hb1 x1 hb12 hb2 hzi hs1 hw0 hr0 hr1
 go_enter Tryz.func38,Tryz.ntmps38
 go_wp2_with fail
 clear hW1 hW2 c0 c1
 go_loopw [7,8] (fun ov i wr=>∃ (k:Nat) (zs:List Zn) (x:Option Addr) (p y:Nat),k≤n∧i=.int .i64 k∧ov=.slice x p y∧Hid (ZIs wr (.slice x p y) zs∧WrG (w64 (r - k)) (l.drop k) zs∧writeG (w64 (r - k)) (l.drop k) zs=writeG r l [z])∧Hid (Below w.heap.size w wr)) (fun _ i _=>n - (intOf i).toNat)
 case atStart=>exact⟨0,[z],_,1,1,Nat.zero_le _,rfl,rfl,⟨HZI.out,by rw[HW0.out];exact HOK.out,by rw[HW0.out];rfl⟩,HB2.out⟩
 case round=>
  clear HZI HB2 HW0 HOK
  obtain⟨k,zs,x,p,y,hk,rfl,rfl,HH,HB⟩:=hrel
  by_cases hlt:k < n
  · have hkn: (k:Int) < (n:Int):=by omega
    have hk0: (0:Int)≤(k:Int):=by omega
    obtain⟨a,ha⟩:∃ a,l[k]?=some a:=⟨_,List.getElem?_eq_getElem (by rw[HN.out];exact hlt)⟩
    obtain⟨bl,ol,hla,_,hlc⟩:=(HLV.out.below HB.out).at (by rw[HN.out];omega)
    subst hla
    have d0:wr.cell? ⟨bl,ol+k,none⟩ = some (.int .i64 a):=hlc k _ (by unfold ints;rw[List.getElem?_map,ha];rfl)
    have hdr:l.drop k=a :: l.drop (k+1):=by
     have h:=List.drop_eq_getElem_cons (show k < l.length by rw[HN.out];exact hlt)
     rw[h]
     congr 1
     have:=List.getElem?_eq_getElem (show k < l.length by rw[HN.out];exact hlt)
     rw[this] at ha
     exact Option.some.inj ha
    have hnx:=w64_next r k
    obtain⟨R,hR⟩:∃ R,w64 (r - (k:Int))=R:=⟨_,rfl⟩
    have hwrp:IntKind.i64.wrap (r - (k:Int))=R:=hR
    obtain⟨hzi,hwo,hwl⟩:=HH.out
    rw[hdr,hR] at hwo hwl
    rw[hR] at hnx
    obtain⟨w1,w2,w3,w4,w5,w6⟩:=hwo
    rw[hnx] at w6
    have HWL:Hid (writeG (w64 (r - ((k+1:Nat):Int))) (l.drop (k+1)) (wrStep a R zs)=writeG r l [z]):=by rw[←hnx];exact hwl
    have HW1:=Lib.hid w1;have HW3:=Lib.hid w3;have HW4:=Lib.hid w4;have HW5:=Lib.hid w5;have HW6:=Lib.hid w6
    have HZI:=Lib.hid hzi
    have hpl:zs.length=p:=by
     obtain⟨a',b',e⟩:=hzi.len
     simp only[Value.slice.injEq] at e
     exact e.2.1.symm
    have HPL:=Lib.hid hpl
    have hp1:p≤10000:=by omega
    have HLC:Hid (∀ W,Below wr.heap.size wr W→W.cell? ⟨bl,ol+k,none⟩ = some (.int .i64 a)):=by
     intro W hW
     obtain⟨bl',ol',hla',_,hlc'⟩:=(HLV.out.below (HB.out.trans (hW.mono HB.out.size))).at (by rw[HN.out];omega)
     cases hla'
     exact hlc' k _ (by unfold ints;rw[List.getElem?_map,ha];rfl)
    clear hR hdr hlc ha hzi hwl w1 w3 w4 w5 w6 hpl w2 HH hnx d0
    obtain⟨wo,rfl⟩:∃ w1,w1=wr:=⟨_,rfl⟩
    go_wp2_with fail
    go_loopw [9,10] (fun nv i wr=>∃ (j q:Nat) (x2:Option Addr) (y2:Nat),j≤p∧i=.int .i64 j∧nv=.slice x2 q y2∧q≤10000∧Hid (ZonesAt wr wo.heap.size (.slice x2 q y2) ((zs.take j).flatMap (wrOne a R))∧((zs.take j).flatMap (wrOne a R)).length=q)∧Hid (Below wo.heap.size wo wr)) (fun _ i _=>p - (intOf i).toNat)
    case atStart=>exact⟨0,0,none,0,Nat.zero_le _,rfl,rfl,Nat.zero_le _,⟨ZonesAt.nil _ _,rfl⟩,Below.refl _ _⟩
    case round=>
     obtain⟨j,q,x2,y2,hj,rfl,rfl,hq,HNX,HBI⟩:=hrel
     by_cases hjp:j < p
     · have hjn: (j:Int) < (p:Int):=by omega
       have hj0: (0:Int)≤(j:Int):=by omega
       obtain⟨zj,hzj⟩:∃ z,zs[j]?=some z:=⟨_,List.getElem?_eq_getElem (by rw[HPL.out];exact hjp)⟩
       obtain⟨⟨s1,s2⟩,s3,s4⟩:=HW3.out zj (List.mem_of_getElem? hzj)
       have w1:R≤6:=HW1.out (fun e=>by rw[e] at hzj;simp at hzj)
       obtain⟨g,off,u1,u2,hxa,-,-,f0,f1,hzz,hcc⟩:=(HZI.out.below HBI.out).at hzj
       subst hxa
       obtain⟨b1,m1,hu1⟩:=hzz.1.len
       obtain⟨b2,m2,hu2⟩:=hzz.2.len
       subst hu1;subst hu2
       have d0:=HLC.out wr HBI.out
       have HBD:=Lib.hid (HBI.out.drew)
       have HNX2:=Lib.hid (HNX.out.1)
       have HQ:=Lib.hid HNX.out.2
       have HDR:=Lib.hid (rdrop23_any (w:=wr.drew) a R (hzz.below (Below.refl _ wr).drew) hcc.1 s3 (by omega) s4)
       have HDE:=Lib.hid (drp_drop a R zj s3)
       have hdk:=dropZ_ok a R zj s4
       obtain⟨t1,t2⟩:=dropZ_len a R zj.1 zj.2
       have HTK:=Lib.hid (take_flat (wrOne a R) zs j zj hzj)
       have hfl:=flat_le (wrOne a R) zs (j+1)
       rw[HTK.out,List.length_append,HQ.out] at hfl
       have hfl2:q+ (wrOne a R zj).length≤10000:=Nat.le_trans hfl HW4.out
       clear hzj hzz HNX hfl s3 s4 hcc
       obtain⟨D,hD⟩:∃ D,dropZ a R zj.1 zj.2=D:=⟨_,rfl⟩
       have hone:wrOne a R zj=putL D.1 D.2 a R:=by unfold wrOne;rw[hD]
       rw[hD] at HDE t1 t2 hdk
       have HDK:Hid (∀ c ∈ D.1,-9223372036854775808≤c.1∧c.1≤9223372036854775807):=fun c hc=>(hdk c hc).1
       have hDE:=HDE.out
       rw[show(zj.1,zj.2)=zj from rfl,hDE] at HDR
       rw[hone] at hfl2
       rw[hone] at HTK
       have hd60:D.1.length≤60:=by omega
       have hd61:D.2.length≤60:=by omega
       clear hone hD hDE HDE hdk
       obtain⟨P,hP⟩:∃ P,(putL D.1 D.2 a R).length=P:=⟨_,rfl⟩
       rw[hP] at hfl2
       have HP:=Lib.hid hP
       clear hP
       go_wp2_with fail
       go_region_law (first
        | (go_simp;go_at_call 40;(with_reducible refine HDR.out.mono ?_)
           rintro e W6 ⟨c1,c2,rfl,hzd,hcd,hb6⟩
           have HB6:=Lib.hid (show Below wo.heap.size wo W6 from HBD.out.trans (hb6.mono HBD.out.size))
           have HN6:=Lib.hid ((HNX2.out.below (Below.refl _ wr).drew).below hb6)
           have HPU:=Lib.hid (rput_any (a:=a) (r:=R) hzd hd60 hd61 w1 hcd HDK.out)
           have d6:=HLC.out W6 HB6.out
           clear hzd hcd hb6 HDR)
        | (go_simp;go_at_call 39;(with_reducible refine HPU.out.mono ?_)
           rintro e W7 ⟨vp,rfl,hzp,hb7⟩
           obtain⟨xp,yp,hvp⟩:=hzp.len
           rw[HP.out] at hvp
           subst hvp
           have HB7:=Lib.hid (show Below wo.heap.size wo W7 from HB6.out.trans (hb7.mono HB6.out.size))
           have hn7:=HN6.out.below hb7
           have hsz:wo.heap.size≤W6.heap.size:=HB6.out.size
           obtain⟨x3,y3,W8,hrun,hz8,hb8⟩:=hn7.appRow hzp hsz (Nat.le_trans hsz hb7.size) (by rw[HQ.out,HP.out];omega) 30
           rw[HQ.out,HP.out] at hrun hz8
           have HN8:Hid (ZonesAt W8 wo.heap.size (.slice x3 (q+P) y3) ((zs.take (j+1)).flatMap (wrOne a R))∧((zs.take (j+1)).flatMap (wrOne a R)).length=q+P):=by
            refine⟨?_,?_⟩
            · rw[HTK.out];exact hz8
            · rw[HTK.out,List.length_append,HQ.out,HP.out]
           have HB8:=Lib.hid (show Below wo.heap.size wo W8 from HB7.out.trans (hb8.mono (Nat.le_refl _)))
           clear hz8 hb8 hn7 hzp hb7 HB7 hsz)
        | (refine step_append_known (w:=W7) (by rfl) (.tmp 25) (.tmp 45) 30 30 (by rfl) (.slice x2 q y2) (.slice xp P yp) (by simp[Act.eval]) (by simp[Act.eval]) (.slice x3 (q+P) y3) W8 hrun ?_))
       all_goals
        go_wp2_with fail
        go_roundw
        case rel=>exact⟨j+1,q+P,x3,y3,by omega,by go_num,rfl,hfl2,HN8,HB8⟩
        case measure=>simp[intOf];omega
     · obtain rfl:j=p:=by omega
       have hn1:=HNX.out.1
       have hq1:=HNX.out.2
       rw[List.take_of_length_le (by rw[HPL.out];exact Nat.le_refl _)] at hn1 hq1
       have HBO:=Lib.hid (HB.out.trans (HBI.out.mono HB.out.size))
       have HUQ:=Lib.hid (runique_any hn1.zis (fun y hy=>(HW5.out y hy).1) (by rw[hq1];exact hq))
       clear hn1 hq1 HNX HBI
       go_wp2_with fail
       refine HUQ.out.mono ?_
       rintro e W9 ⟨vu,rfl,hzu,hb9⟩
       obtain⟨xu,yu,hvu⟩:=hzu.len
       subst hvu
       obtain⟨P,hP⟩:∃ P,(uniqL (zs.flatMap (wrOne a R))).length=P:=⟨_,rfl⟩
       have HZ9:Hid (ZIs W9 (.slice xu P yu) (wrStep a R zs)):=by rw[hP] at hzu;exact hzu
       have HB9:=Lib.hid (HBO.out.trans (hb9.mono HBO.out.size))
       rw[hP]
       clear hzu hb9 hP HBO HUQ
       go_wp2_with fail
       go_roundw
       case rel=>exact⟨k+1,wrStep a R zs,xu,P,yu,by omega,by go_num,rfl,⟨HZ9.out,HW6.out,HWL.out⟩,HB9⟩
       case measure=>simp[intOf];omega
  · obtain rfl:k=n:=by omega
    have hF:=HH.out.1
    have he:writeG (w64 (r - (k:Int))) (l.drop k) zs=zs:=by
     rw[List.drop_of_length_le (by rw[HN.out];exact Nat.le_refl _)];rfl
    rw[←he,HH.out.2.2] at hF
    have HF:=Lib.hid hF
    clear hF he HH
    go_wp2
    go_ret
    exact⟨_,rfl,HF.out,HB.out⟩
end Go.Proofs.YtkkoooagamadjaaGreatDoor
