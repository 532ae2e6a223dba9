import Derived.Test.YtkkoooagamadjaaGreatDoorPk31
import Derived.Test.YtkkoooagamadjaaGreatDoorPk07
import Derived.Test.YtkkoooagamadjaaGreatDoorPk35
import Derived.Test.YtkkoooagamadjaaGreatDoorPk27
import Derived.Test.YtkkoooagamadjaaGreatDoorPk33
import Derived.Deep.RegionHeld3
import Derived.Deep.DeepCutAuto
import Derived.Deep.CutRange
namespace Go.Proofs.YtkkoooagamadjaaGreatDoor
open Go.RowKit Go.Shelf
def orA (l:List (Int × Int)):Int:=l.foldl (fun s c=>bits .or .i64 s c.1) 0
def nxA (l:List (Int × Int)):Nat:=l.foldl (fun s c=>if c.2= -1 then s else s+1) 0
theorem orA_snoc (l:List (Int × Int)) (c:Int × Int):orA (l ++ [c])=bits .or .i64 (orA l) c.1:=by simp[orA]
theorem nxA_snoc (l:List (Int × Int)) (c:Int × Int):nxA (l ++ [c])=if c.2= -1 then nxA l else nxA l+1:=by simp[nxA]
theorem nxA_le (l:List (Int × Int)):nxA l≤l.length:=by
 have H:∀ (l:List (Int × Int)) (s:Nat),l.foldl (fun s c=>if c.2= -1 then s else s+1) s≤s+l.length:=by
  intro l
  induction l with
  | nil=>intro s;simp
  | cons c l ih=>
    intro s
    simp only[List.foldl_cons,List.length_cons]
    by_cases h:c.2= -1
    · rw[if_pos h];have:=ih s;omega
    · rw[if_neg h];have:=ih (s+1);omega
 have:=H l 0
 unfold nxA;omega
structure Fm (cl:List (Int × Int)) (n:Int) (m:Nat):Prop where
 st:∀ k x y,cl[k]?=some (x,y)→0≤x∧bits .and .i64 x (orA (cl.take k))=0∧(x=0→y≠ -1)∧(y= -1∨y= (nxA (cl.take k):Int))
 fin:orA cl=firstZ n
 num:nxA cl=m
theorem take_snoc {α:Type} (l:List α) (k:Nat) (c:α) (h:l[k]?=some c):l.take (k+1)=l.take k ++ [c]:=by rw[List.take_add_one,h];rfl
set_option maxRecDepth 100000 in
set_option maxHeartbeats 4000000 in
theorem zformed_any {w:World} {v1 v2:Value} {cl:List (Int × Int)} {gl:List Int} (n:Int) (m:Nat) (hz:ZoneIn w v1 v2 cl gl) (hcl:cl.length≤100) (hf:Fm cl n m) :
 Calls Tryz.prog 24 #[.agg #[v1,v2],.int .i64 n,.int .i64 m] w fun e w'=>e=.returned (.bool true)∧Below w.heap.size w w':=by
 obtain⟨ad1,k1,e1⟩:=hz.1.len
 obtain⟨ad2,k2,e2⟩:=hz.2.len
 obtain⟨p,hp⟩:∃ n,cl.length=n:=⟨_,rfl⟩
 obtain⟨q,hq⟩:∃ m,gl.length=m:=⟨_,rfl⟩
 rw[hp] at e1;rw[hq] at e2
 subst e1;subst e2
 obtain⟨W1,hW1⟩:∃ W1,w.alloc (.cells #[.slice ad1 p k1,.slice ad2 q k2] 28)=W1:=⟨_,rfl⟩
 have hb1:Below w.heap.size w W1:=by rw[←hW1];exact(Below.refl _ _).alloc (Nat.le_refl _) _
 have x1:Blk W1 w.heap.size #[.slice ad1 p k1,.slice ad2 q k2] 28:=by rw[←hW1];exact Blk.new _ _ _
 have HZ1:=Lib.hid (hz.below hb1);have HB1:=Lib.hid hb1;have HP:=Lib.hid hp;have HX1:=Lib.hid x1;have HF:=Lib.hid hf
 have hp100:p≤100:=by omega
 have c0:=x1.two.1
 clear hz hb1 x1 hp hq hcl hf
 go_enter Tryz.func24,Tryz.ntmps24
 go_wp2_with fail
 go_loopw [7,8,14] (fun at' nx i wr=>∃ k:Nat,k≤p∧i=.int .i64 k∧at'=.int .i64 (orA (cl.take k))∧nx=.int .i64 (nxA (cl.take k))∧Hid (Below W1.heap.size W1 wr)) (fun _ _ i _=>p - (intOf i).toNat)
 case atStart=>exact⟨0,Nat.zero_le _,rfl,rfl,rfl,Below.refl _ _⟩
 case round=>
  clear c0
  obtain⟨k,hk,rfl,rfl,rfl,HB⟩:=hrel
  by_cases hlt:k < p
  · have hkn: (k:Int) < (p:Int):=by omega
    have hk0: (0:Int)≤(k:Int):=by omega
    obtain⟨xy,hxy⟩:∃ xy,cl[k]?=some xy:=⟨_,List.getElem?_eq_getElem (by rw[HP.out];exact hlt)⟩
    obtain⟨x,y⟩:=xy
    have hz2:=(HZ1.out.below HB.out).1
    rw[HP.out] at hz2
    obtain⟨b',o',rfl,hbl,d0,d1⟩:=hz2.cls hxy (by omega)
    obtain⟨f1,f2,f3,f4⟩:=HF.out.st k x y hxy
    have hA:Hid (orA (cl.take (k+1))=bits .or .i64 (orA (cl.take k)) x):=by unfold Hid;rw[take_snoc _ _ _ hxy,orA_snoc]
    have hN:Hid (nxA (cl.take (k+1))=if y= -1 then nxA (cl.take k) else nxA (cl.take k)+1):=by unfold Hid;rw[take_snoc _ _ _ hxy,nxA_snoc]
    have hnl:=nxA_le (cl.take k)
    rw[List.length_take,HP.out] at hnl
    obtain⟨A,hAA⟩:∃ A,orA (cl.take k)=A:=⟨_,rfl⟩
    obtain⟨X,hXX⟩:∃ X,nxA (cl.take k)=X:=⟨_,rfl⟩
    unfold Hid at hA hN
    rw[hAA] at hA f2 ⊢
    rw[hXX] at hN f4 hnl ⊢
    have hA:=Lib.hid hA;have hN:=Lib.hid hN
    have hx0:¬x < 0:=by omega
    have HBA:=Lib.hid (HB.out.alloc HB.out.size (.cells #[.int .i64 x,.int .i64 y] 47))
    obtain⟨W4,hW4⟩:∃ W4,wr.alloc (.cells #[.int .i64 x,.int .i64 y] 47)=W4:=⟨_,rfl⟩
    have x4:Blk W4 wr.heap.size #[.int .i64 x,.int .i64 y] 47:=by rw[←hW4];exact Blk.new _ _ _
    have g0:=x4.two.1;have g1:=x4.two.2
    rw[hW4] at HBA
    have hXs:IntKind.i64.wrap ((X:Int)+1)= ((X+1:Nat):Int):=by rw[IntKind.wrap_i64];omega
    clear hxy hz2 hAA hXX x4
    by_cases hy:y= -1
    · have hN':Hid (nxA (cl.take (k+1))=X):=by unfold Hid;rw[hN.out,if_pos hy]
      have hxn:¬x=0:=fun h=>f3 h hy
      have hxb: (x == 0)=false:=by simpa using hxn
      subst hy
      clear f3 f4
      go_wp2_with fail
      go_roundw
      case rel=>exact⟨k+1,by omega,by go_num,by rw[hA.out],by rw[hN'.out],HBA⟩
      case measure=>simp[intOf];omega
    · have hN':Hid (nxA (cl.take (k+1))=X+1):=by unfold Hid;rw[hN.out,if_neg hy]
      have hyX:y= (X:Int):=by rcases f4 with h|h;exact absurd h hy;exact h
      subst hyX
      clear f3 f4
      by_cases hx1:x=0
      · subst hx1
        go_wp2_with fail
        go_roundw
        case rel=>exact⟨k+1,by omega,by go_num,by rw[hA.out],int_eq (by rw[hN'.out];omega),HBA⟩
        case measure=>simp[intOf];omega
      · go_wp2_with fail
        go_roundw
        case rel=>exact⟨k+1,by omega,by go_num,by rw[hA.out],int_eq (by rw[hN'.out];omega),HBA⟩
        case measure=>simp[intOf];omega
  · obtain rfl:k=p:=by omega
    have hfin:=HF.out.fin;have hnum:=HF.out.num
    rw[List.take_of_length_le (by rw[HP.out];exact Nat.le_refl _),hfin,hnum]
    have HFI:Hid (∀ W,Calls Tryz.prog 58 #[.int .i64 n] W fun e w'=>e=.returned (.int .i64 (firstZ n))∧W=w'):=Lib.hid fun W=>first_any n W
    have HBB:=Lib.hid (HB1.out.trans (HB.out.mono HB1.out.size))
    clear hfin hnum HB
    go_wp2_with fail
    refine(HFI.out _).mono ?_
    rintro e w' ⟨rfl,rfl⟩
    go_wp2_with fail
    go_ret
    exact⟨rfl,HBB.out⟩
set_option maxRecDepth 100000 in
set_option maxHeartbeats 4000000 in
theorem zgapped_any {w:World} {v1 v2:Value} {cl:List (Int × Int)} {gl:List Int} (c:Int) (hz:ZoneIn w v1 v2 cl gl) (hcl:cl.length≤100) (hl:gl.length=cl.length - 1) (hg:∀ g ∈ gl,0≤g∧g≤c) :
 Calls Tryz.prog 25 #[.agg #[v1,v2],.int .i64 c] w fun e w'=>e=.returned (.bool true)∧Below w.heap.size w w':=by
 obtain⟨ad1,k1,e1⟩:=hz.1.len
 obtain⟨ad2,k2,e2⟩:=hz.2.len
 obtain⟨p,hp⟩:∃ n,cl.length=n:=⟨_,rfl⟩
 obtain⟨q,hq⟩:∃ m,gl.length=m:=⟨_,rfl⟩
 rw[hp] at e1 hl hcl;rw[hq] at e2 hl
 subst e1;subst e2
 obtain⟨W1,hW1⟩:∃ W1,w.alloc (.cells #[.slice ad1 p k1,.slice ad2 q k2] 28)=W1:=⟨_,rfl⟩
 have hb1:Below w.heap.size w W1:=by rw[←hW1];exact(Below.refl _ _).alloc (Nat.le_refl _) _
 have x1:Blk W1 w.heap.size #[.slice ad1 p k1,.slice ad2 q k2] 28:=by rw[←hW1];exact Blk.new _ _ _
 have HZ1:=Lib.hid (hz.below hb1);have HB1:=Lib.hid hb1;have HQ:=Lib.hid hq;have HG:=Lib.hid hg
 have c0:=x1.two.1;have c1:=x1.two.2
 have hw:IntKind.i64.wrap ((p:Int) - 1)= (p:Int) - 1:=by rw[IntKind.wrap_i64];omega
 have hmx:max ((p:Int) - 1) 0= (q:Int):=by omega
 have hq100:q≤100:=by omega
 clear hz hb1 x1 hq hg hp hl
 go_enter Tryz.func25,Tryz.ntmps25
 go_wp2_with fail
 go_loopw [19] (fun i wr=>∃ k:Nat,k≤q∧i=.int .i64 k∧wr=W1) (fun i _=>q - (intOf i).toNat)
 case atStart=>exact⟨0,Nat.zero_le _,rfl,rfl⟩
 case round=>
  clear hmx hw
  obtain⟨k,hk,rfl,rfl⟩:=hrel
  by_cases hlt:k < q
  · have hkn: (k:Int) < (q:Int):=by omega
    have hk0: (0:Int)≤(k:Int):=by omega
    obtain⟨g,hgk⟩:∃ g,gl[k]?=some g:=⟨_,List.getElem?_eq_getElem (by rw[HQ.out];exact hlt)⟩
    have hz2:=HZ1.out.2
    rw[HQ.out] at hz2
    obtain⟨b',o',rfl,hbl,hcells⟩:=hz2.at (by omega)
    have d0:wr.cell? ⟨b',o'+k,none⟩ = some (.int .i64 g):=hcells _ _ (by unfold ints;rw[List.getElem?_map,hgk];rfl)
    obtain⟨q0,q1⟩:=HG.out g (List.mem_of_getElem? hgk)
    have q2:¬g < 0:=by omega
    have q3:¬c < g:=by omega
    clear hgk hz2 hcells
    go_wp2_with fail
    go_roundw
    case rel=>exact⟨k+1,by omega,by go_num,trivial⟩
    case measure=>simp[intOf];omega
  · obtain rfl:k=q:=by omega
    go_wp2_with fail
    go_ret
    exact⟨rfl,HB1.out⟩
def fixL (cl:List (Int × Int)):Nat→List Int
 | 0=>[]
 | k+1=>if 0≤(cl.getD k (0,-1)).2 then fixL cl k ++ [(k:Int)] else fixL cl k
theorem fixL_len (cl:List (Int × Int)):∀ k,(fixL cl k).length≤k
 | 0=>by simp[fixL]
 | k+1=>by
   rw[fixL]
   have:=fixL_len cl k
   split
   · rw[List.length_append];simp;omega
   · omega
set_option maxRecDepth 100000 in
set_option maxHeartbeats 4000000 in
theorem zfixed_any {w:World} {v1 v2:Value} {cl:List (Int × Int)} {gl:List Int} (hz:ZoneIn w v1 v2 cl gl) (hcl:cl.length≤100) :
 Calls Tryz.prog 26 #[.agg #[v1,v2]] w fun e w'=>∃ v',e=.returned v'∧w'.ownsRow w.heap.size 3 1 v' (fixL cl cl.length).length (ints (fixL cl cl.length))∧Below w.heap.size w w':=by
 obtain⟨ad1,k1,e1⟩:=hz.1.len
 obtain⟨ad2,k2,e2⟩:=hz.2.len
 obtain⟨p,hp⟩:∃ n,cl.length=n:=⟨_,rfl⟩
 obtain⟨q,hq⟩:∃ m,gl.length=m:=⟨_,rfl⟩
 rw[hp] at e1;rw[hq] at e2
 subst e1;subst e2
 obtain⟨W1,hW1⟩:∃ W1,w.alloc (.cells #[.slice ad1 p k1,.slice ad2 q k2] 28)=W1:=⟨_,rfl⟩
 have hb1:Below w.heap.size w W1:=by rw[←hW1];exact(Below.refl _ _).alloc (Nat.le_refl _) _
 have x1:Blk W1 w.heap.size #[.slice ad1 p k1,.slice ad2 q k2] 28:=by rw[←hW1];exact Blk.new _ _ _
 have HZ1:=Lib.hid (hz.below hb1);have HB1:=Lib.hid hb1;have HP:=Lib.hid hp
 have c0:=x1.two.1
 have hp100:p≤100:=by omega
 rw[hp]
 clear hz hb1 x1 hq hp hcl
 go_enter Tryz.func26,Tryz.ntmps26
 go_wp2_with fail
 go_loopw [3,9] (fun v i wr=>∃ (k l:Nat) (x:Option Addr) (y:Nat),k≤p∧i=.int .i64 k∧v=.slice x l y∧Hid (l= (fixL cl k).length)∧Hid (wr.ownsRow W1.heap.size 3 1 (.slice x l y) (fixL cl k).length (ints (fixL cl k)))∧Hid (Below W1.heap.size W1 wr)) (fun _ i _=>p - (intOf i).toNat)
 case atStart=>exact⟨0,0,none,0,Nat.zero_le _,rfl,rfl,rfl,World.ownsRow_nil _ _ _ _,Below.refl _ _⟩
 case round=>
  clear c0
  obtain⟨k,l,x,y,hk,rfl,rfl,HL,HR,HB⟩:=hrel
  by_cases hlt:k < p
  · have hkn: (k:Int) < (p:Int):=by omega
    have hk0: (0:Int)≤(k:Int):=by omega
    obtain⟨xy,hxy⟩:∃ xy,cl[k]?=some xy:=⟨_,List.getElem?_eq_getElem (by rw[HP.out];exact hlt)⟩
    obtain⟨a,c⟩:=xy
    have hz2:=(HZ1.out.below HB.out).1
    rw[HP.out] at hz2
    obtain⟨b',o',rfl,hbl,d0,d1⟩:=hz2.cls hxy (by omega)
    have hfx:fixL cl (k+1)=if 0≤c then fixL cl k ++ [(k:Int)] else fixL cl k:=by
     rw[fixL,List.getD_eq_getElem?_getD,hxy];rfl
    obtain⟨W4,hW4⟩:∃ W4,wr.alloc (.cells #[.int .i64 a,.int .i64 c] 47)=W4:=⟨_,rfl⟩
    have hb4:Below wr.heap.size wr W4:=by rw[←hW4];exact(Below.refl _ _).alloc (Nat.le_refl _) _
    have x4:Blk W4 wr.heap.size #[.int .i64 a,.int .i64 c] 47:=by rw[←hW4];exact Blk.new _ _ _
    have g0:=x4.two.1;have g1:=x4.two.2
    have hbB:=HB.out.trans (hb4.mono HB.out.size)
    have hr4:=owns_below HR.out hb4
    by_cases hc:0≤c
    · rw[if_pos hc] at hfx
      have hba:Below W4.heap.size W4 (W4.alloc (.cells #[.int .i64 k] 3)):=(Below.refl _ _).alloc (Nat.le_refl _) _
      have hra:=owns_below hr4 hba
      have hrd:RdK (W4.alloc (.cells #[.int .i64 k] 3)) 1 (.slice (some ⟨W4.heap.size,0,none⟩) 1 1) 1 (ints [(k:Int)]):=by
       refine⟨_,_,rfl,rfl,.inr ⟨W4.heap.size,0,rfl,by simp,fun t x hx=>?_⟩⟩
       rw[World.cell?_alloc_at _ _ _ _ (by simp),Nat.zero_add]
       simpa [ints] using hx
      have hfl:=fixL_len cl k
      obtain⟨v',w',hrun,ho,hgr⟩:=appK_run (P:=Tryz.prog) _ 26 26 3 (.int .i64 0) 1 8 W1.heap.size Tryz.underlying26 info_int' rfl (by decide) (by decide) (.slice x l y) (fixL cl k).length (ints (fixL cl k)) hra _ 1 (ints [(k:Int)]) hrd (ints_one _) (by omega) (Nat.le_trans hbB.size hba.size)
      obtain⟨x',y',rfl⟩:=owns_len ho
      rw[show ints (fixL cl k) ++ints [(k:Int)]=ints (fixL cl (k+1)) by rw[hfx];simp[ints],show(fixL cl k).length+1= (fixL cl (k+1)).length by rw[hfx];simp] at ho
      have HL':Hid ((fixL cl k).length+1= (fixL cl (k+1)).length):=by unfold Hid;rw[hfx];simp
      have HO:=Lib.hid ho
      have HBN:=Lib.hid (hbB.trans ((hba.mono hbB.size).trans (below_of_grown hgr (fun k e=>(hra.lt k e).1) (Nat.le_trans hbB.size hba.size))))
      obtain⟨M,hM⟩:∃ M,(fixL cl k).length+1=M:=⟨_,rfl⟩
      unfold Hid at HL'
      rw[hM] at hrun HL'
      replace HL':=Lib.hid HL'
      clear hxy hz2 hfx hb4 x4 hbB hr4 hba hra hrd hfl ho hgr HR HB HL hM
      go_wp2_with (first| (at_builtin;refine wpList_append_known _ rfl _ _ _ _ rfl _ _ rfl rfl _ _ hrun ?_;clear hrun)|fail)
      go_roundw
      case rel=>exact⟨k+1,_,x',y',by omega,by go_num,by rw[HL'.out],rfl,HO,HBN⟩
      case measure=>simp[intOf];omega
    · rw[if_neg hc] at hfx
      have HL':Hid (l= (fixL cl (k+1)).length):=by unfold Hid;rw[hfx];exact HL.out
      have HO:Hid (W4.ownsRow W1.heap.size 3 1 (.slice x l y) (fixL cl (k+1)).length (ints (fixL cl (k+1)))):=by unfold Hid;rw[hfx];exact hr4
      have HBN:=Lib.hid hbB
      clear hxy hz2 hfx hb4 x4 hbB hr4 HR HB HL
      go_wp2_with fail
      go_roundw
      case rel=>exact⟨k+1,l,x,y,by omega,by go_num,rfl,HL',HO,HBN⟩
      case measure=>simp[intOf];omega
  · obtain rfl:k=p:=by omega
    have HRF:=Lib.hid (owns_mono HR.out HB1.out.size)
    have HBF:=Lib.hid (HB1.out.trans (HB.out.mono HB1.out.size))
    clear HR HB
    go_wp2_with fail
    go_ret
    exact⟨_,rfl,HRF.out,HBF.out⟩
set_option maxRecDepth 100000 in
set_option maxHeartbeats 4000000 in
theorem zroom_any {w:World} {v1 v2:Value} {cl:List (Int × Int)} {gl:List Int} (p q:Nat) (cap a b:Int) (hz:ZoneIn w v1 v2 cl gl) (hcv:CapV v2) (hpq:p < q) (hq:q≤gl.length) (hgl:gl.length≤100) (hg:∀ g ∈ gl,0≤g∧g≤1000) (ha:In64 a) (hb:In64 b) :
 Calls Tryz.prog 27 #[.agg #[v1,v2],.int .i64 p,.int .i64 q,.int .i64 cap,.int .i64 a,.int .i64 b] w fun e w'=>e=.returned (.bool (fitsB gl p q cap a b))∧Below w.heap.size w w':=by
 obtain⟨ad1,k1,e1⟩:=hz.1.len
 obtain⟨ad2,k2,e2⟩:=hz.2.len
 obtain⟨n,hn⟩:∃ n,cl.length=n:=⟨_,rfl⟩
 obtain⟨m,hm⟩:∃ m,gl.length=m:=⟨_,rfl⟩
 rw[hn] at e1;rw[hm] at e2
 subst e1;subst e2
 obtain⟨W1,hW1⟩:∃ W1,w.alloc (.cells #[.slice ad1 n k1,.slice ad2 m k2] 28)=W1:=⟨_,rfl⟩
 have hb1:Below w.heap.size w W1:=by rw[←hW1];exact(Below.refl _ _).alloc (Nat.le_refl _) _
 have x1:Blk W1 w.heap.size #[.slice ad1 n k1,.slice ad2 m k2] 28:=by rw[←hW1];exact Blk.new _ _ _
 have hz1:=(hz.below hb1).2
 rw[hm] at hz1 hq hgl
 have HZ1:=Lib.hid hz1;have HB1:=Lib.hid hb1;have HG:=Lib.hid hg;have HM:=Lib.hid hm
 obtain⟨b',o',rfl,hbl,hcells⟩:=hz1.at (by omega)
 have HC:=Lib.hid hcells
 have c1:=x1.two.2
 have HA:=Lib.hid ha;have HBB:=Lib.hid hb
 obtain⟨D,hD⟩:∃ D,q - p=D:=⟨_,rfl⟩
 have hD100:D≤100:=by omega
 have hw1: (q:Int) - (p:Int) - 1= (D:Int) - 1:=by omega
 have HF:Hid (fitsB gl p q cap a b= ((gapZ a b ((D:Int) - 1+ (cutP gl p D).sum+1) == (D:Int) - 1+ (cutP gl p D).sum) || ((cutP gl p D).any (fun g=>g == cap) && decide ((D:Int) - 1+ (cutP gl p D).sum < gapZ a b ((D:Int) - 1+ (cutP gl p D).sum+1))))):=by
  unfold Hid fitsB sumP;rw[hD,hw1]
 have hs1: (0:Int)≤(p:Int):=by omega
 have hs2: (p:Int)≤(q:Int):=by omega
 have hs3: (q:Int)≤(k2:Int):=by have:=hcv _ _ _ rfl;omega
 clear hcv hz hb1 x1 hn hm hg hz1 hcells ha hb
 go_enter Tryz.func27,Tryz.ntmps27
 go_wp2_with fail
 go_loopw [13,14,28] (fun s wd i wr=>∃ k:Nat,k≤D∧i=.int .i64 k∧s=.int .i64 ((D:Int) - 1+ (cutP gl p k).sum)∧wd=.bool ((cutP gl p k).any (fun g=>g == cap))∧wr=W1) (fun _ _ i _=>D - (intOf i).toNat)
 case atStart=>exact⟨0,Nat.zero_le _,rfl,int_eq (by simp[cutP]),by simp[cutP],rfl⟩
 case round=>
  obtain⟨k,hk,rfl,rfl,rfl,rfl⟩:=hrel
  have hsm:=cutP_sum gl p k HG.out
  by_cases hlt:k < D
  · have hkn: (k:Int) < (D:Int):=by omega
    have hk0: (0:Int)≤(k:Int):=by omega
    obtain⟨g,hgk⟩:∃ g,gl[p+k]?=some g:=⟨_,List.getElem?_eq_getElem (by rw[HM.out];omega)⟩
    have d0:wr.cell? ⟨b',o'+p+k,none⟩ = some (.int .i64 g):=by
     rw[Nat.add_assoc]
     exact HC.out _ _ (by unfold ints;rw[List.getElem?_map,hgk];rfl)
    have hgb:=HG.out g (List.mem_of_getElem? hgk)
    have hT:=Lib.hid (cutP_succ gl p k g hgk)
    obtain⟨S,hS⟩:∃ S,(cutP gl p k).sum=S:=⟨_,rfl⟩
    obtain⟨wd,hwd⟩:∃ wd,(cutP gl p k).any (fun g=>g == cap)=wd:=⟨_,rfl⟩
    have hT1:Hid ((cutP gl p (k+1)).sum=S+g):=by unfold Hid;rw[hT.out,List.sum_append,hS];simp
    have hT2:Hid ((cutP gl p (k+1)).any (fun g=>g == cap)= (wd || (g == cap))):=by unfold Hid;rw[hT.out,List.any_append,hwd];simp
    rw[hS] at hsm
    rw[hS,hwd]
    clear hgk hT hS hwd
    cases wd
    · go_wp2_with fail
      go_roundw
      case rel=>exact⟨k+1,by omega,by go_num,by rw[hT1.out];exact int_eq (by omega),by rw[hT2.out];rfl,trivial⟩
      case measure=>simp[intOf];omega
    · go_wp2_with fail
      go_roundw
      case rel=>exact⟨k+1,by omega,by go_num,by rw[hT1.out];exact int_eq (by omega),by rw[hT2.out];rfl,trivial⟩
      case measure=>simp[intOf];omega
  · obtain rfl:k=D:=by omega
    obtain⟨s,hs⟩:∃ s:Nat,(k:Int) - 1+ (cutP gl p k).sum=s:=⟨((k:Int) - 1+ (cutP gl p k).sum).toNat,by omega⟩
    have hs1: (s:Int)+1= ((s+1:Nat):Int):=by omega
    have hsb:s≤200000:=by omega
    obtain⟨wd,hwd⟩:∃ wd,(cutP gl p k).any (fun g=>g == cap)=wd:=⟨_,rfl⟩
    rw[hs,hwd] at HF
    rw[hs,hwd]
    have HGAP:=Lib.hid (gap_any a b (s+1) wr HA.out HBB.out (by omega))
    rw[←hs1] at HGAP
    obtain⟨z,hz⟩:∃ z,gapZ a b ((s:Int)+1)=z:=⟨_,rfl⟩
    rw[hz] at HGAP HF
    clear hs hwd hs1 hz hsm
    go_wp2_with fail
    refine HGAP.out.mono ?_
    rintro e w' ⟨rfl,rfl⟩
    by_cases h1:z= (s:Int)
    · go_wp2_with fail
      go_ret
      exact⟨by rw[HF.out];simp[h1],HB1.out⟩
    · cases wd
      · go_wp2_with fail
        go_ret
        exact⟨by rw[HF.out];simp,HB1.out⟩
      · go_wp2_with fail
        go_ret
        exact⟨by rw[HF.out];simp,HB1.out⟩
end Go.Proofs.YtkkoooagamadjaaGreatDoor
namespace Go.Proofs.YtkkoooagamadjaaGreatDoor
open Go.RowKit Go.Shelf
structure ChkOK (cl:List (Int × Int)) (gl:List Int) (n:Int) (C:List Int) (cap:Int):Prop where
 hn:0≤n∧n≤31
 fm:Fm cl n C.length
 gap:gl.length=cl.length - 1∧∀ g ∈ gl,0≤g∧g≤cap
 len: (fixL cl cl.length).length=C.length
 fit:∀ i a b,C[i]?=some a→C[i+1]?=some b→∃ p q:Nat,(fixL cl cl.length)[i]?=some (p:Int)∧(fixL cl cl.length)[i+1]?=some (q:Int)∧p < q∧q≤gl.length∧fitsB gl p q cap a b=true
set_option maxRecDepth 100000 in
set_option maxHeartbeats 4000000 in
theorem zcheck_any {w:World} {v1 v2 v3:Value} {cl:List (Int × Int)} {gl consts:List Int} (n r:Int) (hz:ZoneIn w v1 v2 cl gl) (hcv:CapV v2) (h3:Reads w v3 (ints consts)) (hc:consts.length≤12) (hi:∀ x ∈ consts,In64 x) (hcl:cl.length≤100) (hgl:gl.length≤100) (hk:kap r≤1000) (hn4:n=0∨n=1∨n=2∨n=3∨n=4)
 (hok:ChkOK cl gl n (sortS consts) (kap r)) :
 Calls Tryz.prog 9 #[.agg #[v1,v2],.int .i64 n,v3,.int .i64 r] w fun e w'=>e=.returned (.bool true)∧Below w.heap.size w w':=by
 obtain⟨ad1,k1,e1⟩:=hz.1.len
 obtain⟨ad2,k2,e2⟩:=hz.2.len
 obtain⟨ad3,k3,e3,-⟩:=h3.len
 rw[ints_len] at e3
 obtain⟨p,hp⟩:∃ n,cl.length=n:=⟨_,rfl⟩
 obtain⟨q,hq⟩:∃ m,gl.length=m:=⟨_,rfl⟩
 rw[hp] at e1;rw[hq] at e2
 subst e1;subst e2;subst e3
 obtain⟨W1,hW1⟩:∃ W1,w.alloc (.cells #[.slice ad1 p k1,.slice ad2 q k2] 28)=W1:=⟨_,rfl⟩
 have hb1:Below w.heap.size w W1:=by rw[←hW1];exact(Below.refl _ _).alloc (Nat.le_refl _) _
 have x1:Blk W1 w.heap.size #[.slice ad1 p k1,.slice ad2 q k2] 28:=by rw[←hW1];exact Blk.new _ _ _
 have HZ1:=Lib.hid (hz.below hb1);have HB1:=Lib.hid hb1;have X1:=Lib.hid x1;have HCV:=Lib.hid hcv
 have r3:=h3.below (Nat.le_refl _) hb1
 have HSO:=Lib.hid (sorted64_any r3 hc)
 obtain⟨C,hC⟩:∃ C,sortS consts=C:=⟨_,rfl⟩
 obtain⟨m,hm⟩:∃ m,C.length=m:=⟨_,rfl⟩
 have hCI:∀ x ∈ C,In64 x:=fun x hx=>hi x (by rw[←hC] at hx;exact((sortS_ok _).2 x).1 hx)
 have hm12:m≤12:=by rw[←hm,←hC];exact Nat.le_trans (sortS_len _) hc
 unfold Hid at HSO
 rw[hC,hm] at HSO
 rw[hC] at hok
 replace HSO:=Lib.hid HSO
 have HOK:=Lib.hid hok;have HM:=Lib.hid hm;have HCI:=Lib.hid hCI
 have HP:=Lib.hid hp;have HQ:=Lib.hid hq;have HCL:=Lib.hid hcl;have HGL:=Lib.hid hgl;have HK:=Lib.hid hk
 obtain⟨K,hKK⟩:∃ K:Nat,kap r=K:=⟨_,rfl⟩
 have HKK:=Lib.hid hKK
 have hn0:¬n < 0:=by have:=hok.hn;omega
 have hn1:¬31 < n:=by have:=hok.hn;omega
 clear hz hb1 x1 r3 hC hm hCI hok hp hq hcl hgl hk hKK h3 hc hi hcv
 go_enter Tryz.func9,Tryz.ntmps9
 go_wp2_with fail
 refine HSO.out.mono ?_
 rintro e wc ⟨vc,rfl,hoc,hbc⟩
 obtain⟨adc,capc,hvc⟩:=owns_len hoc
 subst hvc
 have HOC:=Lib.hid hoc
 have HBC:=Lib.hid (HB1.out.trans (hbc.mono HB1.out.size))
 have HZC:=Lib.hid (HZ1.out.below hbc)
 have xc:=X1.out.keep hbc
 have XC:=Lib.hid xc
 have d0:=xc.two.1;have d1:=xc.two.2
 have HFO:Hid (∀ W,Below wc.heap.size wc W→Calls Tryz.prog 24 #[.agg #[.slice ad1 p k1,.slice ad2 q k2],.int .i64 n,.int .i64 m] W fun e w'=>e=.returned (.bool true)∧Below W.heap.size W w'):=by
  intro W hW
  exact zformed_any n m (HZC.out.below hW) HCL.out (by have:=HOK.out.fm;rw[HM.out] at this;exact this)
 have HGA:Hid (∀ W,Below wc.heap.size wc W→Calls Tryz.prog 25 #[.agg #[.slice ad1 p k1,.slice ad2 q k2],.int .i64 K] W fun e w'=>e=.returned (.bool true)∧Below W.heap.size W w'):=by
  intro W hW
  exact zgapped_any (K:Int) (HZC.out.below hW) HCL.out HOK.out.gap.1 (by have:=HOK.out.gap.2;rw[HKK.out] at this;exact this)
 have HCC:Hid (∀ W,Calls Tryz.prog 19 #[.int .i64 r] W fun e w'=>e=.returned (.int .i64 K)∧W=w'):=fun W=>(cap_any r _).mono fun e w' h=>⟨by rw[h.1,HKK.out],h.2⟩
 have HSF:Hid (∀ W,Below wc.heap.size wc W→W.cell? ⟨w.heap.size,0,none⟩ = some (.slice ad1 p k1)∧W.cell? ⟨w.heap.size,1,none⟩ = some (.slice ad2 q k2)):=by
  intro W hW
  exact(XC.out.keep hW).two
 have hbz:Below wc.heap.size wc wc.drew:=(Below.refl _ _).drew
 clear hoc hbc xc HSO X1 HB1 HZ1
 go_upto_region 2 with fail
 go_cut [34] from 12 to 34 (fun v34 wx=>v34=.bool false∧Hid (Below wc.heap.size wc wx))
 case first=>
  rcases hn4 with rfl|rfl|rfl|rfl|rfl
  all_goals
   (go_region_held3 (fun w'=>w'.cell? ⟨w.heap.size,0,none⟩ = some (.slice ad1 p k1)∧w'.cell? ⟨w.heap.size,1,none⟩ = some (.slice ad2 q k2))
     (first|exact HSF.out _ (by assumption)|go_keep)
     (first
       | (go_simp;go_at_call 19;(with_reducible refine(HCC.out _).mono ?_);rintro e w5 ⟨rfl,rfl⟩)
       | (go_simp;go_at_call 24;(with_reducible refine(HFO.out _ (by assumption)).mono ?_)
          rintro e w6 ⟨rfl,hbs⟩
          have hbz:=hbz.trans (hbs.mono hbz.size)
          clear hbs)
       | (go_simp;go_at_call 25;(with_reducible refine(HGA.out _ (by assumption)).mono ?_)
          rintro e w6 ⟨rfl,hbs⟩
          have hbz:=hbz.trans (hbs.mono hbz.size)
          clear hbs)))
  all_goals
   go_wp2_with fail
   go_meet
   exact⟨rfl,Lib.hid hbz⟩
 case rest=>
  clear HFO HGA HSF hbz d0 d1
  obtain⟨rfl,HB2⟩:=hcut
  have x2:=XC.out.keep HB2.out
  have c0:=x2.two.1;have c1:=x2.two.2
  have HFX:=Lib.hid (zfixed_any (HZC.out.below HB2.out) HCL.out)
  obtain⟨wx,hwx⟩:∃ W,W=wc:=⟨_,rfl⟩
  subst hwx
  clear x2
  go_wp2_with fail
  refine HFX.out.mono ?_
  rintro e wf ⟨vf,rfl,hof,hbf⟩
  obtain⟨F,hF⟩:∃ F,fixL cl cl.length=F:=⟨_,rfl⟩
  have hok:=HOK.out
  have hFl:F.length=m:=by rw[←hF,hok.len,HM.out]
  have hfit:=hok.fit
  rw[hF] at hof hfit
  rw[hFl] at hof
  obtain⟨adf,capf,hvf⟩:=owns_len hof
  subst hvf
  have HFI:=Lib.hid hfit
  have HOF:=Lib.hid hof
  have HBX:=Lib.hid (HBC.out.trans (HB2.out.mono HBC.out.size))
  have HBF:=Lib.hid (HBX.out.trans (hbf.mono HBX.out.size))
  have HZF:=Lib.hid ((HZC.out.below HB2.out).below hbf)
  have XF:=Lib.hid ((XC.out.keep HB2.out).keep hbf)
  have HOCF:=Lib.hid (owns_below (owns_below HOC.out HB2.out) hbf)
  have hg:=hok.gap.2
  rw[HKK.out] at hg
  have HG:=Lib.hid (fun g (h:g ∈ gl)=>(⟨(hg g h).1,by have:=(hg g h).2;have:=HK.out;have:=HKK.out;omega⟩:0≤g∧g≤1000))
  unfold Hid at HFI
  rw[HKK.out] at HFI
  replace HFI:=Lib.hid HFI
  clear hok hFl hfit hof hF hg hbf HFX HOC HZC XC HB2 c0 c1 HBC HBX hn0 hn1 hn4
  go_wp2_with fail
  go_loopw [11] (fun i wr=>∃ J:Nat,1≤J∧(J≤m∨J=1)∧i=.int .i64 J∧Hid (Below wf.heap.size wf wr)) (fun i _=>m+1 - (intOf i).toNat)
  case atStart=>exact⟨1,Nat.le_refl _,.inr rfl,rfl,Below.refl _ _⟩
  case round=>
   obtain⟨J,h1,h2,rfl,HB⟩:=hrel
   by_cases hlt:J < m
   · have hjm: (J:Int) < (m:Int):=by omega
     obtain⟨j,hj⟩:∃ j,J - 1=j:=⟨_,rfl⟩
     have hwj:IntKind.i64.wrap ((J:Int) - 1)= (j:Int):=by rw[IntKind.wrap_i64];omega
     have hj0: (0:Int)≤(j:Int):=by omega
     have hJ0: (0:Int)≤(J:Int):=by omega
     have hjm2: (j:Int) < (m:Int):=by omega
     have hJe:j+1=J:=by omega
     obtain⟨a,ha⟩:∃ a,C[j]?=some a:=⟨_,List.getElem?_eq_getElem (by rw[HM.out];omega)⟩
     obtain⟨b,hb⟩:∃ b,C[J]?=some b:=⟨_,List.getElem?_eq_getElem (by rw[HM.out];omega)⟩
     obtain⟨P1,Q1,f1,f2,f3,f4,f5⟩:=HFI.out j a b ha (by rw[hJe];exact hb)
     rw[hJe] at f2
     have hrf:=owns_below HOF.out HB.out
     have hrc:=owns_below HOCF.out HB.out
     obtain⟨gf,q1,t1⟩:=owns_slice hrf (by omega)
     cases t1
     obtain⟨gc,q2,t2⟩:=owns_slice hrc (by omega)
     cases t2
     have HRO:Hid (∀ W,Below wr.heap.size wr W→Calls Tryz.prog 27 #[.agg #[.slice ad1 p k1,.slice ad2 q k2],.int .i64 P1,.int .i64 Q1,.int .i64 K,.int .i64 a,.int .i64 b] W fun e w'=>e=.returned (.bool true)∧Below W.heap.size W w'):=by
      intro W hW
      rw[←f5]
      exact zroom_any (w:=W) P1 Q1 (K:Int) a b ((HZF.out.below HB.out).below hW) HCV.out f3 f4 HGL.out HG.out (HCI.out a (List.mem_of_getElem? ha)) (HCI.out b (List.mem_of_getElem? hb))
     have HSF:Hid (∀ W,Below wr.heap.size wr W→W.cell? ⟨w.heap.size,0,none⟩ = some (.slice ad1 p k1)∧W.cell? ⟨w.heap.size,1,none⟩ = some (.slice ad2 q k2)∧W.cell? ⟨gf,j,none⟩ = some (.int .i64 P1)∧W.cell? ⟨gf,J,none⟩ = some (.int .i64 Q1)∧W.cell? ⟨gc,j,none⟩ = some (.int .i64 a)∧W.cell? ⟨gc,J,none⟩ = some (.int .i64 b)):=by
      intro W hW
      have hx4:=(XF.out.keep HB.out).keep hW
      have hr4:=owns_below hrf hW
      have hc4:=owns_below hrc hW
      refine⟨hx4.two.1,hx4.two.2,?_,?_,?_,?_⟩
      · rw[hr4.cellAt _ (by omega)];unfold ints;rw[List.getElem?_map,f1];rfl
      · rw[hr4.cellAt _ (by omega)];unfold ints;rw[List.getElem?_map,f2];rfl
      · rw[hc4.cellAt _ (by omega)];unfold ints;rw[List.getElem?_map,ha];rfl
      · rw[hc4.cellAt _ (by omega)];unfold ints;rw[List.getElem?_map,hb];rfl
     obtain⟨d0,d1,d2,d3,d4,d5⟩:=HSF.out wr (Below.refl _ _)
     have hbz:Below wr.heap.size wr wr.drew:=(Below.refl _ _).drew
     have HJe:=Lib.hid hJe;have HLT:=Lib.hid hlt
     clear hj hJe ha hb f1 f2 f3 f4 f5 hrf hrc h2 hlt
     go_upto_region 8 with fail
     go_cut [65] from 37 to 65 (fun v65 wx=>v65=.bool false∧Hid (Below wr.heap.size wr wx))
     case first=>
      go_region_held3 (fun w'=>w'.cell? ⟨w.heap.size,0,none⟩ = some (.slice ad1 p k1)∧w'.cell? ⟨w.heap.size,1,none⟩ = some (.slice ad2 q k2)∧w'.cell? ⟨gf,j,none⟩ = some (.int .i64 P1)∧w'.cell? ⟨gf,J,none⟩ = some (.int .i64 Q1)∧w'.cell? ⟨gc,j,none⟩ = some (.int .i64 a)∧w'.cell? ⟨gc,J,none⟩ = some (.int .i64 b))
       (first|exact HSF.out _ (by assumption)|go_keep)
       (first
         | (go_simp;go_at_call 19;(with_reducible refine(HCC.out _).mono ?_);rintro e w5 ⟨rfl,rfl⟩)
         | (go_simp;go_at_call 27;(with_reducible refine(HRO.out _ (by assumption)).mono ?_)
            rintro e w6 ⟨rfl,hbs⟩
            have hbz:=hbz.trans (hbs.mono hbz.size)
            clear hbs))
      all_goals
       go_wp2_with fail
       go_meet
       exact⟨rfl,Lib.hid hbz⟩
     case rest=>
      clear HRO HSF hbz d0 d1 d2 d3 d4 d5
      obtain⟨rfl,HB'⟩:=hcut
      have HB3:=Lib.hid (HB.out.trans (HB'.out.mono HB.out.size))
      clear HB'
      go_wp2_with fail
      go_roundw
      case rel=>exact⟨J+1,by omega,.inl (by have:=HLT.out;omega),by go_num,HB3⟩
      case measure=>have:=HLT.out;simp[intOf];omega
   · have hjm:¬(J:Int) < (m:Int):=by omega
     have HBE:=Lib.hid (HBF.out.trans (HB.out.mono HBF.out.size))
     go_wp2_with fail
     go_ret
     exact⟨rfl,HBE.out⟩
end Go.Proofs.YtkkoooagamadjaaGreatDoor
