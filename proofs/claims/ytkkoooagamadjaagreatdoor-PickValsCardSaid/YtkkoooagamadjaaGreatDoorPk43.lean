import Derived.Test.YtkkoooagamadjaaGreatDoorPk30
import Derived.Test.YtkkoooagamadjaaGreatDoorPk31
import Derived.Test.YtkkoooagamadjaaGreatDoorPk19
import Derived.Test.YtkkoooagamadjaaGreatDoorPk18
namespace Go.Proofs.YtkkoooagamadjaaGreatDoor
open Go.RowKit Go.Shelf
def exZ:Zn:=([(3,-1)],[])
def exL:List Zn:=[([(1,-1),(2,-1)],[0]),([(3,-1)],[]),([(2,-1),(1,-1)],[0])]
theorem ex_flat: [exZ].flatMap (wrOne 0 1)=exL:=by decide +kernel
theorem ex_write:writeL 1 [0] [exZ]=exL:=by decide +kernel
theorem ex_ok:WrOK 1 [0] [exZ]:=by
 refine⟨by decide,by decide,?_,?_,?_,trivial⟩
 · intro z hz
   rw[List.mem_singleton] at hz
   subst hz
   exact⟨by decide,by decide⟩
 · rw[ex_flat];decide
 · rw[ex_flat]
   intro y hy
   simp only[exL,List.mem_cons,List.not_mem_nil,or_false] at hy
   rcases hy with rfl|rfl|rfl
   all_goals
    refine⟨⟨by decide,by decide⟩,?_,?_⟩
    · intro c hc
      simp only[List.mem_cons,List.not_mem_nil,or_false] at hc
      first
      | (rcases hc with rfl|rfl <;> exact⟨⟨by decide,by decide⟩,⟨by decide,by decide⟩⟩)
      | (subst hc;exact⟨⟨by decide,by decide⟩,⟨by decide,by decide⟩⟩)
    · intro g hg
      first
      | (cases hg;done)
      | (rw[List.mem_singleton] at hg;subst hg;exact⟨by decide,by decide⟩)
theorem ZoneIn.cls {W:World} {c1 c2:Value} {cl:List (Int × Int)} {gl:List Int} (h:ZoneIn W c1 c2 cl gl) {k:Nat} {x y:Int} (hk:cl[k]?=some (x,y)) :
 ∃ g off cap,c1=.slice (some ⟨g,off,none⟩) cl.length cap∧W.cell? ⟨g,off+k * 2,none⟩ = some (.int .i64 x):=by
 obtain⟨ad,cap,e⟩:=h.1.len
 have hr:=h.1
 rw[e] at hr
 have hkl:=(List.getElem?_eq_some_iff.1 hk).1
 obtain⟨g,off,rfl,_,hc⟩:=hr.at (by omega)
 exact⟨g,off,cap,e,hc _ _ (cellsP_get _ _ _ hk).1⟩
set_option maxRecDepth 100000 in
set_option maxHeartbeats 1000000 in
theorem awake25 {w:World} (ht:PTab w):Calls Tryz.prog 5 #[] w fun e w'=>e=.returned (.bool true)∧Below w.heap.size w w':=by
 obtain⟨W1,hW1⟩:∃ W1,w.alloc (.cells #[.int .i64 3,.int .i64 (-1)] 47)=W1:=⟨_,rfl⟩
 have hb1:Below w.heap.size w W1:=by rw[←hW1];exact(Below.refl _ _).alloc (Nat.le_refl _) _
 obtain⟨W2,hW2⟩:∃ W2,W1.alloc (.cells #[.int .i64 0] 3)=W2:=⟨_,rfl⟩
 have hb12:Below W1.heap.size W1 W2:=by rw[←hW2];exact(Below.refl _ _).alloc (Nat.le_refl _) _
 have hz1:ZoneIn W1 (.slice (some ⟨w.heap.size,0,none⟩) 1 1) (.slice none 0 0) exZ.1 exZ.2:=by
  refine⟨⟨_,_,rfl,rfl,.inr ⟨w.heap.size,0,rfl,by rw[←hW1];simp,fun t x hx=>?_⟩⟩,RdK.zero _ _ _ _⟩
  rw[←hW1,World.cell?_alloc_at _ _ _ _ (by simp)]
  simpa [cellsP,exZ] using hx
 have hl:RdK W2 1 (.slice (some ⟨W1.heap.size,0,none⟩) 1 1) 1 (ints [0]):=by
  refine⟨_,_,rfl,rfl,.inr ⟨W1.heap.size,0,rfl,by rw[←hW2];simp,fun t x hx=>?_⟩⟩
  rw[←hW2,World.cell?_alloc_at _ _ _ _ (by simp)]
  simpa [ints] using hx
 have hb2:=hb1.trans (hb12.mono hb1.size)
 have hp:=write_any (ht.keep hb2) 1 (hz1.below hb12) ⟨fun ad n cap e=>by cases e;exact Nat.le_refl _,fun ad n cap e=>by cases e;exact Nat.le_refl _⟩ hl (by decide) (by decide) (by decide) ex_ok
 rw[ex_write] at hp
 have HP:=Lib.hid hp
 have HB2:=Lib.hid hb2
 clear hz1 hl hp hb1 hb12 hb2 ht
 go_enter Tryz.func5,Tryz.ntmps5
 go_wp2_with fail
 refine HP.out.mono ?_
 rintro e w1 ⟨v',rfl,hz,hb⟩
 obtain⟨ad,cap,hv⟩:=hz.len
 subst hv
 obtain⟨g,off,c1,c2,rfl,-,-,d0,d1,z0,-⟩:=hz.at (k:=0) rfl
 obtain⟨g',off',c3,c4,e1,-,-,d2,d3,z1,-⟩:=hz.at (k:=1) rfl
 cases e1
 obtain⟨g',off',c5,c6,e1,-,-,d4,d5,z2,-⟩:=hz.at (k:=2) rfl
 cases e1
 obtain⟨g0,o0,k0,rfl,f0⟩:=z0.cls (k:=0) (x:=1) (y:=-1) rfl
 obtain⟨g1,o1,k1,rfl,f1⟩:=z1.cls (k:=0) (x:=3) (y:=-1) rfl
 obtain⟨g2,o2,k2,rfl,f2⟩:=z2.cls (k:=1) (x:=1) (y:=-1) rfl
 have HB:=Lib.hid (HB2.out.trans (hb.mono HB2.out.size))
 simp only[Nat.zero_mul,Nat.one_mul,Nat.add_zero,List.length_cons,List.length_nil,Nat.zero_add,Nat.reduceAdd,Nat.reduceMul] at d0 d1 d2 d3 d4 d5 f0 f1 f2 ⊢
 clear hz hb z0 z1 z2 HP
 go_wp2
 go_ret
 exact⟨rfl,HB.out⟩
end Go.Proofs.YtkkoooagamadjaaGreatDoor
namespace Go.Proofs.YtkkoooagamadjaaGreatDoor
open Go.RowKit Go.Shelf
set_option maxRecDepth 100000 in
set_option maxHeartbeats 2000000 in
theorem runique_any {w:World} {v0:Value} {zs:List Zn} (h:ZIs w v0 zs) (hs:∀ z ∈ zs,SmallZ z) (hl:zs.length≤10000) :
 Calls Tryz.prog 67 #[v0] w fun e w'=>∃ v',e=.returned v'∧ZIs w' v' (uniqL zs)∧Below w.heap.size w w':=by
 obtain⟨ad,cap,hv⟩:=h.len
 subst hv
 obtain⟨n,hn⟩:∃ n,zs.length=n:=⟨_,rfl⟩
 have HN:=Lib.hid hn;have HS:=Lib.hid hs
 have HL:=Lib.hid h
 rw[hn] at HL hl ⊢
 clear hn hs h
 go_enter Tryz.func67,Tryz.ntmps67
 go_wp2_with fail
 go_loopw [3,4] (fun v i wr=>∃ (k:Nat) (x:Option Addr) (p y:Nat),k≤n∧i=.int .i64 k∧v=.slice x p y∧Hid (ZOf w wr (.slice x p y) (uniqL (zs.take k))∧Below w.heap.size w wr)) (fun _ i _=>n - (intOf i).toNat)
 case atStart=>exact⟨0,none,0,0,Nat.zero_le _,rfl,rfl,⟨ZOf.nil _ _,Below.refl _ _⟩⟩
 case round=>
  obtain⟨k,x,p,y,hk,rfl,rfl,HU⟩:=hrel
  by_cases hlt:k < n
  · have hkn: (k:Int) < (n:Int):=by omega
    have hk0: (0:Int)≤(k:Int):=by omega
    obtain⟨z,hz⟩:∃ z,zs[k]?=some z:=⟨_,List.getElem?_eq_getElem (by rw[HN.out];exact hlt)⟩
    have hzs:=HS.out z (List.mem_of_getElem? hz)
    obtain⟨g,off,c1,c2,had,-,-,d0,d1,-⟩:=(HL.out.below HU.out.2).at hz
    subst had
    obtain⟨g',off',c1',c2',had,-,hgl,d0',d1',hzi⟩:=HL.out.at hz
    simp only[Option.some.injEq,Addr.mk.injEq,and_true] at had
    obtain⟨rfl,rfl⟩:=had
    have e0:=HU.out.2.cell (p:=⟨g,off+k * 2,none⟩) hgl
    have e1:=HU.out.2.cell (p:=⟨g,off+k * 2+1,none⟩) hgl
    rw[d0,d0'] at e0;rw[d1,d1'] at e1
    cases e0;cases e1
    obtain⟨a1,k1,hc1⟩:=hzi.1.1.len
    obtain⟨a2,k2,hc2⟩:=hzi.1.2.len
    subst hc1;subst hc2
    have hul:=uniqL_len (zs.take k)
    rw[List.length_take] at hul
    have hplen: (uniqL (zs.take k)).length=p:=by
     obtain⟨a',b',e⟩:=HU.out.1.len
     simp only[Value.slice.injEq] at e
     exact e.2.1.symm
    have hsm:∀ y ∈ uniqL (zs.take k),SmallZ y:=fun y hy=>HS.out y (List.mem_of_mem_take ((uniqL_mem _ _).1 hy))
    have HHA:=Lib.hid (hasI_any (HU.out.1.zis HU.out.2) (hzi.1.below HU.out.2) hsm hzs (by omega))
    obtain⟨t,ht⟩:∃ t,decide (z ∈ uniqL (zs.take k))=t:=⟨_,rfl⟩
    rw[ht] at HHA
    have HTT:Hid (decide (z ∈ zs.take k)=t):=by unfold Hid;rw[←ht];congr 1;rw[uniqL_mem]
    have HZI:=Lib.hid hzi
    have htk:zs.take (k+1)=zs.take k ++ [z]:=by rw[List.take_add_one,hz];rfl
    have HTK:=Lib.hid htk
    have HPL:=Lib.hid hplen
    have hg2:=hgl
    have HZK:=Lib.hid hz
    clear hz hzs hzi hsm hul hplen htk ht d0' d1'
    go_wp2_with fail
    refine HHA.out.mono ?_
    rintro e W6 ⟨rfl,hb6⟩
    have HO6:=Lib.hid (HU.out.1.below hb6)
    have HB6:=Lib.hid (HU.out.2.trans (hb6.mono HU.out.2.size))
    obtain⟨g',off',c1',c2',had,-,-,f0,f1,-⟩:=(HL.out.below HB6.out).at HZK.out
    simp only[Option.some.injEq,Addr.mk.injEq,and_true] at had
    obtain⟨rfl,rfl⟩:=had
    have e0:=hb6.cell (p:=⟨g,off+k * 2,none⟩) (Nat.lt_of_lt_of_le hg2 HU.out.2.size)
    have e1:=hb6.cell (p:=⟨g,off+k * 2+1,none⟩) (Nat.lt_of_lt_of_le hg2 HU.out.2.size)
    rw[d0] at e0;rw[d1] at e1
    rw[f0] at e0;rw[f1] at e1
    cases e0;cases e1
    clear hb6 d0 d1 HHA HU hgl hg2
    cases t
    · have hno:z ∉ zs.take k:=of_decide_eq_false HTT.out
      have hp2: (uniqL (zs.take k)).length≤100000:=by have:=uniqL_len (zs.take k);rw[List.length_take] at this;omega
      obtain⟨x',y',W9,hrun,ho9,-,hb9,-⟩:=HO6.out.app HZI.out HB6.out hp2 30
      rw[HPL.out] at hrun ho9
      have HU9:Hid (ZOf w W9 (.slice x' (p+1) y') (uniqL (zs.take (k+1)))∧Below w.heap.size w W9):=by
       refine⟨?_,hb9⟩
       have e:uniqL (zs.take (k+1))=uniqL (zs.take k) ++ [z]:=by rw[HTK.out,uniqL_snoc,if_neg hno]
       rw[e];exact ho9
      clear ho9 hb9 hno hp2
      go_wp2_with (first| (at_builtin;refine wpList_append_known _ rfl _ _ _ _ rfl _ _ rfl rfl _ _ hrun ?_;clear hrun f0 f1)|fail)
      go_roundw
      case rel=>exact⟨k+1,x',p+1,y',by omega,by go_num,rfl,HU9⟩
      case measure=>simp[intOf];omega
    · have hyes:z ∈ zs.take k:=of_decide_eq_true HTT.out
      have HU9:Hid (ZOf w W6 (.slice x p y) (uniqL (zs.take (k+1)))∧Below w.heap.size w W6):=by
       refine⟨?_,HB6.out⟩
       have e:uniqL (zs.take (k+1))=uniqL (zs.take k):=by rw[HTK.out,uniqL_snoc,if_pos hyes]
       rw[e];exact HO6.out
      clear hyes
      go_wp2_with fail
      go_roundw
      case rel=>exact⟨k+1,x,p,y,by omega,by go_num,rfl,HU9⟩
      case measure=>simp[intOf];omega
  · obtain rfl:k=n:=by omega
    have hU:=HU.out
    rw[List.take_of_length_le (by rw[HN.out];exact Nat.le_refl _)] at hU
    have HF:=Lib.hid (hU.1.zis hU.2)
    have HB:=Lib.hid hU.2
    clear hU HU
    go_wp2
    go_ret
    exact⟨_,rfl,HF.out,HB.out⟩
def lessZ (a b:Zn):Bool:=Op.bytesLess (zoneS a).toList (zoneS b).toList
theorem bl_asym:∀ (x y:List UInt8),Op.bytesLess x y=true→Op.bytesLess y x=false
 | [],[],h=>by simp[Op.bytesLess] at h
 | [],_ :: _,_=>by simp[Op.bytesLess]
 | _ :: _,[],h=>by simp[Op.bytesLess] at h
 | a :: x,b :: y,h=>by
   simp only[Op.bytesLess,Bool.or_eq_true,Bool.and_eq_true,decide_eq_true_eq,beq_iff_eq] at h
   rw[Bool.eq_false_iff]
   intro h2
   simp only[Op.bytesLess,Bool.or_eq_true,Bool.and_eq_true,decide_eq_true_eq,beq_iff_eq] at h2
   rcases h with h| ⟨rfl,h⟩
   · rcases h2 with h2| ⟨rfl,h2⟩
     · exact absurd h (UInt8.lt_asymm h2)
     · exact UInt8.lt_irrefl _ h
   · rcases h2 with h2| ⟨_,h2⟩
     · exact UInt8.lt_irrefl _ h2
     · rw[bl_asym x y h] at h2;cases h2
theorem bl_tri:∀ (x y:List UInt8),Op.bytesLess x y=false→Op.bytesLess y x=false→x=y
 | [],[],_,_=>rfl
 | [],_ :: _,h,_=>by simp[Op.bytesLess] at h
 | _ :: _,[],_,h=>by simp[Op.bytesLess] at h
 | a :: x,b :: y,h,h2=>by
   simp only[Op.bytesLess,Bool.or_eq_false_iff,decide_eq_false_iff_not] at h h2
   have e:a=b:=by
    rcases UInt8.lt_or_le a b with h3|h3
    · exact absurd h3 h.1
    · exact UInt8.le_antisymm (by rcases UInt8.lt_or_le b a with h4|h4;exact absurd h4 h2.1;exact h4) h3
   subst e
   have h5:=h.2;have h6:=h2.2
   simp only[beq_self_eq_true,Bool.true_and] at h5 h6
   rw[bl_tri x y h5 h6]
theorem bl_refl:∀ (x:List UInt8),Op.bytesLess x x=false
 | []=>rfl
 | a :: x=>by
   have:=bl_refl x
   simp[Op.bytesLess,this]
theorem less_facts (a b:Zn): (lessZ a b=true→lessZ b a=false)∧((lessZ a b=false∧lessZ b a=false) ↔ a=b):=by
 refine⟨bl_asym _ _,⟨fun⟨h1,h2⟩ =>?_,?_⟩⟩
 · have h:=bl_tri _ _ h1 h2
   rw[ByteArray.toList_eq,ByteArray.toList_eq] at h
   exact zoneS_inj (Go.WideShapes.bytes_inj h)
 · rintro rfl
   exact⟨bl_refl _,bl_refl _⟩
end Go.Proofs.YtkkoooagamadjaaGreatDoor
namespace Go.Proofs.YtkkoooagamadjaaGreatDoor
open Go.RowKit Go.Shelf
set_option maxRecDepth 100000 in
set_option maxHeartbeats 4000000 in
theorem rwithout_any {w:World} {v1 v2:Value} {cl:List (Int × Int)} {gl:List Int} (i0:Nat) (r:Int) (hz:ZoneIn w v1 v2 cl gl) (hi:i0 < cl.length) (hgl:gl.length=cl.length - 1) (hcl:cl.length≤1000) :
 Calls Tryz.prog 72 #[.agg #[v1,v2],.int .i64 i0,.int .i64 r] w fun e w'=>∃ c1 c2,e=.returned (.agg #[c1,c2])∧ZoneAt w' w.heap.size c1 c2 (woS cl gl i0 r cl.length).1 (woS cl gl i0 r cl.length).2∧Below w.heap.size w w':=by
 obtain⟨ad1,k1,e1⟩:=hz.1.len
 obtain⟨ad2,k2,e2⟩:=hz.2.len
 obtain⟨n,hn⟩:∃ n,cl.length=n:=⟨_,rfl⟩
 obtain⟨m,hm⟩:∃ m,gl.length=m:=⟨_,rfl⟩
 rw[hn] at e1 hcl hi hgl ⊢;rw[hm] at e2 hgl
 subst e1;subst e2
 have HZ:=Lib.hid hz;have HN:=Lib.hid hn;have HM:=Lib.hid hm;have HGL:=Lib.hid hgl
 obtain⟨W1,hW1⟩:∃ W1,w.alloc (.cells #[.slice ad1 n k1,.slice ad2 m k2] 28)=W1:=⟨_,rfl⟩
 have hs1:W1.heap.size=w.heap.size+1:=by rw[←hW1];simp
 obtain⟨W2,hW2⟩:∃ W2,W1.alloc (.cells #[.slice none 0 0,.slice none 0 0] 28)=W2:=⟨_,rfl⟩
 have hs2:W2.heap.size=w.heap.size+2:=by rw[←hW2];simp[hs1]
 obtain⟨W3,hW3⟩:∃ W3,W2.alloc (.cells #[.slice none 0 0,.slice none 0 0] 28)=W3:=⟨_,rfl⟩
 have hb3:Below w.heap.size w W3:=by
  rw[←hW3,←hW2,←hW1];exact(((Below.refl _ w).alloc (Nat.le_refl _) _).alloc (by simp) _).alloc (by simp;omega) _
 have h0:OS w (.slice ad1 n k1) (.slice ad2 m k2) (.slice none 0 0) (.slice none 0 0) [] [] W3:=by
  refine⟨?_,?_,?_,⟨World.ownsRow_nil _ _ _ _,World.ownsRow_nil _ _ _ _⟩,hb3⟩
  · rw[←hW3,←hW2,←hW1];exact((Blk.new _ _ _).alloc _).alloc _
  · rw[←hW3,←hW2,←hs1];exact(Blk.new _ _ _).alloc _
  · rw[←hW3,←hs2];exact Blk.new _ _ _
 have H0:=Lib.hid h0
 clear hz hb3 h0 hn hm hgl
 go_enter Tryz.func72,Tryz.ntmps72
 go_wp2_with fail
 go_loopw [8] (fun i wr=>∃ k:Nat,i=.int .i64 k∧k≤n∧∃ (x1:Option Addr) (y1:Nat) (x2:Option Addr) (y2:Nat),Hid (OS w (.slice ad1 n k1) (.slice ad2 m k2) (.slice x1 (woS cl gl i0 r k).1.length y1) (.slice x2 (woS cl gl i0 r k).2.length y2) (woS cl gl i0 r k).1 (woS cl gl i0 r k).2 wr)) (fun i _=>n - (intOf i).toNat)
 case atStart=>exact⟨0,rfl,Nat.zero_le _,none,0,none,0,H0.out⟩
 case round=>
  obtain⟨k,rfl,hk,x1,y1,x2,y2,HS⟩:=hrel
  by_cases hlt:k < n
  · have hkn: (k:Int) < (n:Int):=by omega
    by_cases hki:k=i0
    · subst hki
      have HSA:=Lib.hid (woS_same cl gl k r)
      obtain⟨A,hA⟩:∃ A,(woS cl gl k r k).1=A:=⟨_,rfl⟩
      obtain⟨G,hG⟩:∃ G,(woS cl gl k r k).2=G:=⟨_,rfl⟩
      have HAG:Hid ((woS cl gl k r (k+1)).1=A∧(woS cl gl k r (k+1)).2=G):=by unfold Hid;rw[HSA.out];exact⟨hA,hG⟩
      rw[hA,hG] at HS
      obtain⟨c0,c1,c2,c3,c4,c5,c6⟩:=HS.out.facts
      clear hA hG
      go_wp2_with fail
      go_roundw
      case rel=>exact⟨k+1,by go_num,by omega,x1,y1,x2,y2,by rw[HAG.out.1,HAG.out.2];exact HS⟩
      case measure=>simp[intOf];omega
    · obtain⟨hl1,hl2⟩:=woS_len cl gl i0 r k
      obtain⟨xy,hxy⟩:∃ xy,cl[k]?=some xy:=⟨_,List.getElem?_eq_getElem (by rw[HN.out];exact hlt)⟩
      obtain⟨x,y⟩:=xy
      have HNX:Hid (woS cl gl i0 r (k+1)= ((woS cl gl i0 r k).1 ++ [(x,y)],if(woS cl gl i0 r k).1.length=0 then(woS cl gl i0 r k).2 else(woS cl gl i0 r k).2 ++ [gapW gl i0 r k])):=by
       unfold Hid;rw[woS,if_neg hki,getD_cls hxy]
      obtain⟨A,hA⟩:∃ A,(woS cl gl i0 r k).1=A:=⟨_,rfl⟩
      obtain⟨G,hG⟩:∃ G,(woS cl gl i0 r k).2=G:=⟨_,rfl⟩
      rw[hA,hG] at HS HNX hl2
      rw[hA] at hl1
      obtain⟨na,hna⟩:∃ na,A.length=na:=⟨_,rfl⟩
      obtain⟨ng,hng⟩:∃ ng,G.length=ng:=⟨_,rfl⟩
      rw[hna] at HS HNX hl1 hl2
      rw[hng] at HS hl2
      obtain⟨c0,c1,c2,c3,c4,c5,c6⟩:=HS.out.facts
      have HNA:=Lib.hid hna;have HNG:=Lib.hid hng
      have hna1:na≤1000:=by split at hl1 <;> omega
      have hna0:¬na=0→1≤k∧(k=i0+1→1≤i0):=by intro h;split at hl1 <;> omega
      have hkii:¬(k:Int)= (i0:Int):=by omega
      have hzr:=(HZ.out.below HS.out.low).1
      rw[HN.out] at hzr
      obtain⟨b',o',rfl,_,d0,d1⟩:=hzr.cls hxy (by omega)
      have HXY:=Lib.hid hxy
      clear hzr hxy hA hG hna hng hl1
      go_upto_if 23 with fail
      go_cut [3,6,7,8] (fun s3 s6 s7 s8 wx=>s3=.pointer (some ⟨w.heap.size,0,none⟩)∧s6=.pointer (some ⟨w.heap.size+1,0,none⟩)∧s7=.pointer (some ⟨w.heap.size+2,0,none⟩)∧s8=.int .i64 k∧∃ (x2:Option Addr) (y2:Nat),Hid (OS w (.slice (some ⟨b',o',none⟩) n k1) (.slice ad2 m k2) (.slice x1 na y1) (.slice x2 (if na=0 then G else G ++ [gapW gl i0 r k]).length y2) A (if na=0 then G else G ++ [gapW gl i0 r k]) wx))
      case first=>
       by_cases hn0:na=0
       · subst hn0
         go_wp2_with fail
         go_meet
         refine⟨rfl,rfl,rfl,rfl,x2,y2,?_⟩
         simp only[↓reduceIte]
         rw[HNG.out]
         exact HS
       · have hnp: (0:Int) < (na:Int):=by omega
         have hk1:=hna0 hn0
         obtain⟨K,hK⟩:∃ K,k=K+1:=⟨k - 1,by omega⟩
         have hK1: (k:Int) - 1= (K:Int):=by omega
         have hmn:m=n - 1:=HGL.out
         have hKm:K < m:=by omega
         have hz2:=(HZ.out.below HS.out.low).2
         rw[HM.out] at hz2
         obtain⟨b2,o2,rfl,_,hgc⟩:=hz2.at (by omega)
         obtain⟨gk,hgk⟩:∃ g,gl[K]?=some g:=⟨_,List.getElem?_eq_getElem (by rw[HM.out];exact hKm)⟩
         have f0:wr.cell? ⟨b2,o2+K,none⟩ = some (.int .i64 gk):=hgc _ _ (by unfold ints;rw[List.getElem?_map,hgk];rfl)
         have HRG:=Lib.hid (show wr.ownsRow w.heap.size 3 1 (.slice x2 ng y2) ng (ints G) by have:=HS.out.zn.2;rwa [HNG.out] at this)
         have hwsz:=HS.out.low.size
         have hng1:ng≤1000:=by omega
         have hgkd:gl.getD K 0=gk:=by rw[List.getD_eq_getElem?_getD,hgk];rfl
         clear hl2 hmn
         by_cases hKi:K=i0
         · subst hKi
           obtain⟨I,hI⟩:∃ I,K=I+1:=⟨K - 1,by omega⟩
           have hI1: (K:Int) - 1= (I:Int):=by omega
           have hIm:I < m:=by omega
           obtain⟨gi,hgi⟩:∃ g,gl[I]?=some g:=⟨_,List.getElem?_eq_getElem (by rw[HM.out];exact hIm)⟩
           have f1:wr.cell? ⟨b2,o2+I,none⟩ = some (.int .i64 gi):=hgc _ _ (by unfold ints;rw[List.getElem?_map,hgi];rfl)
           have hgid:gl.getD I 0=gi:=by rw[List.getD_eq_getElem?_getD,hgi];rfl
           obtain⟨A1,hA1⟩:∃ A1,klip gi r=A1:=⟨_,rfl⟩
           obtain⟨B1,hB1⟩:∃ B1,klip gk r=B1:=⟨_,rfl⟩
           obtain⟨gv,hgv⟩:∃ gv,klip (A1+B1+1) r=gv:=⟨_,rfl⟩
           have hA2:=klip_bd gi r
           have hB2:=klip_bd gk r
           rw[hA1] at hA2;rw[hB1] at hB2
           have hA3:0≤A1∧A1≤1048575:=⟨hA2.1,hA2.2.2⟩
           have hB3:0≤B1∧B1≤1048575:=⟨hB2.1,hB2.2.2⟩
           have HGW:Hid (gapW gl K r k=gv):=by
            unfold Hid gapW
            rw[if_pos hK,show K - 1=I by omega,hgid,hgkd,hA1,hB1,hgv]
           have HC1:Hid (∀ W,Calls Tryz.prog 99 #[.int .i64 gi,.int .i64 r] W fun e w'=>e=.returned (.int .i64 A1)∧W=w'):=fun W=>by rw[←hA1];exact rclip_any gi r W
           have HC2:Hid (∀ W,Calls Tryz.prog 99 #[.int .i64 gk,.int .i64 r] W fun e w'=>e=.returned (.int .i64 B1)∧W=w'):=fun W=>by rw[←hB1];exact rclip_any gk r W
           have HC3:Hid (∀ W,Calls Tryz.prog 99 #[.int .i64 (A1+B1+1),.int .i64 r] W fun e w'=>e=.returned (.int .i64 gv)∧W=w'):=fun W=>by rw[←hgv];exact rclip_any _ r W
           clear hgk hgi hgkd hgid hgc hz2 hA1 hB1 hgv hA2 hB2 hk1 hna0 hI hK
           go_wp2_with fail
           refine(HC1.out _).mono ?_
           rintro e wq ⟨rfl,rfl⟩
           go_wp2_with fail
           refine(HC2.out _).mono ?_
           rintro e wq ⟨rfl,rfl⟩
           go_wp2_with fail
           refine(HC3.out _).mono ?_
           rintro e wq ⟨rfl,rfl⟩
           go_wp2_with (first
            | (at_builtin
               go_loud (refine app1 wr #[.int .i64 gv] rfl _ _ 26 rfl w.heap.size 3 (.int .i64 0) 1 8 Tryz.underlying26 info_int rfl (by decide) (by decide) (.slice x2 ng y2) ng (ints G) rfl (by exact HRG.out) rfl (by simp) rfl (by simp[Value.oneCell']) (by omega) hwsz ?_)
               intro v' w7 ho7 hg7 hb7
               have hos:OS w _ _ _ _ _ _ _:=OS.appG (ys:=[gv]) (c2':=v') HS.out (by rw[HNG.out];simpa [ints] using ho7) hg7
               obtain⟨q0,q1,q2⟩:=HS.out.cellG hg7
               obtain⟨x5,y5,hv'⟩:=owns_len ho7
               subst hv'
               have HOS:=Lib.hid hos
               clear hos ho7 hg7 hb7)
                | fail)
           go_meet
           refine⟨rfl,rfl,rfl,rfl,x5,y5,?_⟩
           rw[if_neg hn0,HGW.out,List.length_append,HNG.out]
           exact HOS.out
         · have hKi2:¬(K:Int)= (i0:Int):=by omega
           obtain⟨gv,rfl⟩:∃ gv,gv=gk:=⟨_,rfl⟩
           have HGW:Hid (gapW gl i0 r k=gv):=by
            unfold Hid gapW
            rw[if_neg (by omega),show k - 1=K by omega,hgkd]
           clear hgk hgkd hgc hz2 hk1 hna0 hK
           go_wp2_with (first
            | (at_builtin
               go_loud (refine app1 wr #[.int .i64 gv] rfl _ _ 26 rfl w.heap.size 3 (.int .i64 0) 1 8 Tryz.underlying26 info_int rfl (by decide) (by decide) (.slice x2 ng y2) ng (ints G) rfl (by exact HRG.out) rfl (by simp) rfl (by simp[Value.oneCell']) (by omega) hwsz ?_)
               intro v' w7 ho7 hg7 hb7
               have hos:OS w _ _ _ _ _ _ _:=OS.appG (ys:=[gv]) (c2':=v') HS.out (by rw[HNG.out];simpa [ints] using ho7) hg7
               obtain⟨q0,q1,q2⟩:=HS.out.cellG hg7
               obtain⟨x5,y5,hv'⟩:=owns_len ho7
               subst hv'
               have HOS:=Lib.hid hos
               clear hos ho7 hg7 hb7)
                | fail)
           go_meet
           refine⟨rfl,rfl,rfl,rfl,x5,y5,?_⟩
           rw[if_neg hn0,HGW.out,List.length_append,HNG.out]
           exact HOS.out
      case rest=>
       clear HS c0 c1 c2 c3 c4 c5 c6 d0 d1
       obtain⟨rfl,rfl,rfl,rfl,x2',y2',HS⟩:=hcut
       obtain⟨G',hG'⟩:∃ G',(if na=0 then G else G ++ [gapW gl i0 r k])=G':=⟨_,rfl⟩
       rw[hG'] at HS HNX
       obtain⟨ng',hng'⟩:∃ q,G'.length=q:=⟨_,rfl⟩
       rw[hng'] at HS
       have HNG2:=Lib.hid hng'
       obtain⟨c0,c1,c2,c3,c4,c5,c6⟩:=HS.out.facts
       have hzr:=(HZ.out.below HS.out.low).1
       rw[HN.out] at hzr
       obtain⟨_,_,eq,_,d0,d1⟩:=hzr.cls HXY.out (by omega)
       cases eq
       have hba:Below wc.drew.heap.size wc.drew (wc.drew.alloc (.cells #[.int .i64 x,.int .i64 y] 47)):=(Below.refl _ _).alloc (Nat.le_refl _) _
       have hos2:=OS.below (W:=wc.drew) (HS.out.below (Below.refl _ _).drew) hba
       obtain⟨e0,e1,e2,e3,e4,e5,e6⟩:=hos2.facts
       have hzr3:=(HZ.out.below hos2.low).1
       rw[HN.out] at hzr3
       obtain⟨_,_,eq,_,d2,d3⟩:=hzr3.cls HXY.out (by omega)
       cases eq
       have HOA:=Lib.hid hos2
       have HRD:Hid (RdK (wc.drew.alloc (.cells #[.int .i64 x,.int .i64 y] 47)) 2 (.slice (some ⟨wc.drew.heap.size,0,none⟩) 1 1) 1 (cellsP [(x,y)])):=by
        refine⟨_,_,rfl,rfl,.inr ⟨wc.drew.heap.size,0,rfl,by simp,fun t x hx=>?_⟩⟩
        rw[World.cell?_alloc_at _ _ _ _ (by simp)]
        simpa [cellsP] using hx
       have HRO:Hid ((wc.drew.alloc (.cells #[.int .i64 x,.int .i64 y] 47)).ownsRow w.heap.size 47 2 (.slice x1 na y1) na (cellsP A)):=by
        have:=hos2.zn.1
        rw[HNA.out] at this
        exact this
       clear hos2 hba hzr hzr3 hG' hng' hna0
       go_upto_region 11 with fail
       go_region_law (first
        | (refine step_appX (w:=wc.drew.alloc (.cells #[.int .i64 x,.int .i64 y] 47)) (by rfl) (.tmp 56) (.tmp 62) 25 (by rfl) 47 (.agg #[.int .i64 0,.int .i64 0]) 2 16 w.heap.size Tryz.underlying25 info_class rfl (by decide) (by decide) (.slice x1 na y1) na (cellsP A) (by simp[Act.eval]) HRO.out 1 (cellsP [(x,y)]) ⟨_,by simp[Act.eval],HRD.out⟩ (cellsP_one _) (by omega) HOA.out.low.size ?_
           intro v' w5 ho5 hg5
           have hos:OS w _ _ _ _ _ _ _:=OS.appC (ys:=[(x,y)]) (c1':=v') HOA.out (by rw[HNA.out];exact ho5) hg5
           obtain⟨q0,q1,q2⟩:=HOA.out.cellC hg5
           obtain⟨x1',y1',hv'⟩:=owns_len ho5
           subst hv'
           have HOS:=Lib.hid hos
           clear hos ho5 hg5))
       all_goals
        go_wp2_with fail
        go_roundw
        case rel=>exact⟨k+1,by go_num,by omega,x1',y1',x2',y2',by rw[HNX.out];dsimp only;rw[List.length_append,HNA.out,HNG2.out];exact HOS⟩
        case measure=>simp[intOf];omega
  · obtain rfl:k=n:=by omega
    obtain⟨c0,c1,c2,c3,c4,c5,c6⟩:=HS.out.facts
    have r0:=HS.out.res.two.1;have r1:=HS.out.res.two.2
    have r2:=HS.out.res.free 0;have r3:=HS.out.res.free 1
    go_wp2
    have v1:=HS.out.res.put2 (.slice x1 (woS cl gl i0 r k).1.length y1) (.slice x2 (woS cl gl i0 r k).2.length y2)
    have e0:=v1.two.1;have e1:=v1.two.2
    refine bodyPost_ret (v:=.agg #[.slice x1 (woS cl gl i0 r k).1.length y1,.slice x2 (woS cl gl i0 r k).2.length y2]) (by simp[results,Tryz.results72,go_sem,e0,e1]) rfl ?_
    have z6:=HS.out.zn
    exact⟨_,_,rfl,⟨ownsRow_setCell_other (ownsRow_setCell_other z6.1 (HS.out.res.row_ne z6.1 (by decide)) _) (HS.out.res.row_ne z6.1 (by decide)) _,ownsRow_setCell_other (ownsRow_setCell_other z6.2 (HS.out.res.row_ne z6.2 (by decide)) _) (HS.out.res.row_ne z6.2 (by decide)) _⟩,
     (HS.out.low.setCell (p:=⟨w.heap.size+1,0,none⟩) (Nat.le_succ _) _).setCell (p:=⟨w.heap.size+1,1,none⟩) (Nat.le_succ _) _⟩
end Go.Proofs.YtkkoooagamadjaaGreatDoor
