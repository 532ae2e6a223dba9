import Derived.Test.YtkkoooagamadjaaGreatDoorPk36
import Derived.Test.YtkkoooagamadjaaGreatDoorPk31
namespace Go.Proofs.YtkkoooagamadjaaGreatDoor
open Go.RowKit
theorem constZ_at (C:List Int) (i:Nat) (y:Int) (hs:C.Pairwise (· < ·)) (h:C[i]?=some y):∀ n,i < n→n≤C.length→constZ C y n= (i:Int)
 | 0,h0,_=>by omega
 | n+1,h0,h1=>by
   obtain⟨hi,hy⟩:=List.getElem?_eq_some_iff.1 h
   rw[constZ]
   by_cases hc:C.getD n 0=y
   · rw[if_pos hc]
     have hn:n < C.length:=by omega
     have hg:C[n]=y:=by rw[←hc,List.getD_eq_getElem?_getD,List.getElem?_eq_getElem hn];rfl
     by_cases hin:i < n
     · have:=List.pairwise_iff_getElem.1 hs i n hi hn hin;omega
     · have:i=n:=by omega
       rw[this]
   · rw[if_neg hc]
     have:i≠n:=by rintro rfl;exact hc (by rw[List.getD_eq_getElem?_getD,h];rfl)
     exact constZ_at C i y hs h n (by omega) (by omega)
theorem constZ_bd' (C:List Int) (x:Int):∀ n,-1≤constZ C x n
 | 0=>by simp[constZ]
 | k+1=>by
   rw[constZ]
   have:=constZ_bd' C x k
   split <;> omega
theorem gapsZ_bd' (c:Int) (hc:0≤c):∀ (l:List Int),∀ g ∈ gapsZ c l,0≤g∧g≤c
 | [],g,h=>by simp[gapsZ] at h
 | [_],g,h=>by simp[gapsZ] at h
 | x :: y :: l,g,h=>by
   rcases List.mem_cons.1 h with rfl|h
   · unfold gapZ;omega
   · exact gapsZ_bd' c hc (y :: l) g h
section
variable (vals:List Int) (C:List Int)
def clsF' (y:Int):Int × Int:=clsZ (pZ vals) vals.length C y
theorem nx_map:∀ (l:List Int),nxA (l.map (clsF' vals C))= (l.filter fun y=>decide (y ∈ C)).length:=by
 have H:∀ (l:List Int) (s:Nat),(l.map (clsF' vals C)).foldl (fun s c=>if c.2= -1 then s else s+1) s=s+ (l.filter fun y=>decide (y ∈ C)).length:=by
  intro l
  induction l with
  | nil=>intro s;simp
  | cons y l ih=>
    intro s
    have e: (clsF' vals C y).2= -1 ↔ y ∉ C:=const_mem C y
    simp only[List.map_cons,List.foldl_cons,List.filter_cons]
    by_cases h:y ∈ C
    · have h1:¬(clsF' vals C y).2= -1:=fun h2=>(e.1 h2) h
      rw[if_neg h1,ih];simp[h];omega
    · have h1:=e.2 h
      rw[if_pos h1,ih];simp[h]
 intro l
 have:=H l 0
 unfold nxA
 omega
theorem or_map (hv:vals.length≤31):∀ (l:List Int),orA (l.map (clsF' vals C))= ((ofB fun j=>decide (j < vals.length) && l.any fun y=>pZ vals y j:Nat):Int):=by
 have H:∀ (l:List Int) (g:Nat→Bool),(l.map (clsF' vals C)).foldl (fun s c=>bits .or .i64 s c.1) ((ofB g:Nat):Int)= ((ofB fun j=>g j || (decide (j < vals.length) && l.any fun y=>pZ vals y j):Nat):Int):=by
  intro l
  induction l with
  | nil=>intro g;simp
  | cons y l ih=>
    intro g
    have e: (clsF' vals C y).1= ((ofB fun j=>decide (j < vals.length) && pZ vals y j:Nat):Int):=attrZ_ofB (pZ vals y) vals.length hv
    simp only[List.map_cons,List.foldl_cons]
    rw[e,or_ofB,ih]
    refine congrArg (fun n:Nat=>(n:Int)) (ofB_congr _ _ fun j _=>?_)
    simp only[List.any_cons]
    cases g j <;> cases decide (j < vals.length) <;> cases pZ vals y j <;> rfl
 intro l
 have:=H l (fun _=>false)
 have h0:ofB (fun _=>false)=0:=(ofB_zero _).2 fun _ _=>rfl
 rw[h0] at this
 unfold orA
 simpa using this
theorem and_ofB0 (f g:Nat→Bool) (h:∀ j,j < 31→(f j && g j)=false):bits .and .i64 ((ofB f:Nat):Int) ((ofB g:Nat):Int)=0:=by
 have h1:=ofB_lt f;have h2:=ofB_lt g
 rw[and_nat _ _ (by omega)]
 have e: ((((ofB f:Nat):Int) % 18446744073709551616).toNat)=ofB f:=by omega
 rw[e]
 have:ofB f &&& ofB g=0:=by
  refine Nat.eq_of_testBit_eq fun j=>?_
  rw[Nat.testBit_and,ofB_bit,ofB_bit,Nat.zero_testBit]
  by_cases hj:j < 31
  · have:=h j hj
    simp only[hj,decide_true,Bool.true_and];exact this
  · simp[hj]
 rw[this];rfl
theorem fix_map (L:List Int):∀ k,k≤L.length→
 (fixL (L.map (clsF' vals C)) k).map (fun p=>L.getD p.toNat 0)= (L.take k).filter (fun y=>decide (y ∈ C))∧(∀ p ∈ fixL (L.map (clsF' vals C)) k,0≤p∧p < (k:Int))∧(fixL (L.map (clsF' vals C)) k).Pairwise (· < ·)
 | 0,_=>by simp[fixL]
 | k+1,hk=>by
   obtain⟨h1,h2,h3⟩:=fix_map L k (by omega)
   have hlt:k < L.length:=by omega
   have e: ((L.map (clsF' vals C)).getD k (0,-1))=clsF' vals C L[k]:=by
    rw[List.getD_eq_getElem?_getD,List.getElem?_map,List.getElem?_eq_getElem hlt];rfl
   have ec:0≤(clsF' vals C L[k]).2 ↔ L[k] ∈ C:=by
    have h4: (clsF' vals C L[k]).2= -1 ↔ L[k] ∉ C:=const_mem C L[k]
    have h5:=constZ_bd' C L[k] C.length
    have h6: (clsF' vals C L[k]).2=constZ C L[k] C.length:=rfl
    by_cases h:L[k] ∈ C
    · have:¬(clsF' vals C L[k]).2= -1:=fun h7=>h4.1 h7 h
      exact⟨fun _=>h,fun _=>by omega⟩
    · have:=h4.2 h
      exact⟨fun _=>by omega,fun h8=>absurd h8 h⟩
   rw[fixL,e,List.take_succ_eq_append_getElem hlt,List.filter_append]
   by_cases h:L[k] ∈ C
   · rw[if_pos (ec.2 h)]
     refine⟨?_,?_,?_⟩
     · rw[List.map_append,h1]
       simp[h,List.getD_eq_getElem?_getD,List.getElem?_eq_getElem hlt]
     · intro p hp
       rcases List.mem_append.1 hp with hp|hp
       · have:=h2 p hp;omega
       · rw[List.mem_singleton] at hp;omega
     · refine List.pairwise_append.2 ⟨h3,List.pairwise_singleton _ _,fun a ha b hb=>?_⟩
       rw[List.mem_singleton] at hb
       have:=h2 a ha;omega
   · rw[if_neg (fun h7=>h (ec.1 h7))]
     refine⟨?_,fun p hp=>by have:=h2 p hp;omega,h3⟩
     rw[h1];simp[h]
end
theorem fits_of (L:List Int) (hL:L.Pairwise (· < ·)) (cap:Nat) (p q:Nat) (a b:Int) (hpq:p < q) (ha:L[p]?=some a) (hb:L[q]?=some b):fitsB (gapsZ cap L) p q cap a b=true:=by
 have H:∀ k y,p+k≤q→L[p+k]?=some y→0≤(cutP (gapsZ cap L) p k).sum∧(k:Int)+ (cutP (gapsZ cap L) p k).sum≤y - a∧((cutP (gapsZ cap L) p k).any (fun g=>g == (cap:Int))=false→(k:Int)+ (cutP (gapsZ cap L) p k).sum=y - a):=by
  intro k
  induction k with
  | zero=>
    intro y _ hy
    rw[Nat.add_zero,ha] at hy
    cases hy
    simp[cutP]
  | succ k ih=>
    intro y hk hy
    obtain⟨hi,hye⟩:=List.getElem?_eq_some_iff.1 hy
    have hlt:p+k < L.length:=by omega
    obtain⟨x,hx⟩:∃ x,L[p+k]?=some x:=⟨_,List.getElem?_eq_getElem hlt⟩
    have hxe:=(List.getElem?_eq_some_iff.1 hx).2
    have hxy:x < y:=by
     have:=List.pairwise_iff_getElem.1 hL (p+k) (p+ (k+1)) hlt hi (by omega)
     omega
    obtain⟨i0,i1,i2⟩:=ih x (by omega) hx
    have hg:=gapsZ_at (cap:Int) L (p+k) x y hx (by rw[show p+k+1=p+ (k+1) by omega];exact hy)
    rw[cutP_succ _ _ _ _ hg,List.sum_append,List.any_append,Bool.or_eq_false_iff]
    have e1: [gapZ x y (cap:Int)].sum=gapZ x y cap:=by simp
    have e2: ([gapZ x y (cap:Int)].any fun g=>g == (cap:Int))= (gapZ x y cap == (cap:Int)):=by simp
    rw[e1,e2]
    have hgz:gapZ x y cap=min (cap:Int) (y - x - 1):=by unfold gapZ;omega
    refine⟨by omega,by omega,fun⟨j1,j2⟩ =>?_⟩
    have:=i2 j1
    have j3:gapZ x y cap≠(cap:Int):=by simpa using j2
    omega
 obtain⟨D,hD⟩:∃ D,q - p=D:=⟨_,rfl⟩
 obtain⟨h0,h1,h2⟩:=H D b (by omega) (by rw[show p+D=q by omega];exact hb)
 unfold fitsB sumP
 rw[hD]
 generalize (cutP (gapsZ cap L) p D).sum=S at *
 rw[show(q:Int) - p - 1= (D:Int) - 1 by omega]
 cases hw: (cutP (gapsZ cap L) p D).any (fun g=>g == (cap:Int)) with
 | false=>
   have:=h2 hw
   have e:gapZ a b ((D:Int) - 1+S+1)= (D:Int) - 1+S:=by unfold gapZ;omega
   rw[e];simp
 | true=>
   by_cases e:gapZ a b ((D:Int) - 1+S+1)= (D:Int) - 1+S
   · rw[e];simp
   · have: (D:Int) - 1+S < gapZ a b ((D:Int) - 1+S+1):=by unfold gapZ at e ⊢;omega
     simp[this]
theorem ofZ_chk (vals consts:List Int) (r:Int) (hv:vals.length≤31):ChkOK (ofZ vals consts r).1 (ofZ vals consts r).2 vals.length (sortS consts) (kap r):=by
 obtain⟨hC,hCm⟩:=sortS_ok consts
 obtain⟨hL,hLm⟩:=sortS_ok (vals ++consts)
 have e1: (ofZ vals consts r).1= (sortS (vals ++consts)).map (clsF' vals (sortS consts)):=rfl
 have e2: (ofZ vals consts r).2=gapsZ (kap r) (sortS (vals ++consts)):=rfl
 rw[e1,e2]
 have hsub:∀ z,z ∈ sortS consts→z ∈ sortS (vals ++consts):=fun z hz=>(hLm z).2 (List.mem_append_right _ ((hCm z).1 hz))
 have hval:∀ j,j < vals.length→vals.getD j 0 ∈ sortS (vals ++consts):=fun j hj=>(hLm _).2 (List.mem_append_left _ (by rw[List.getD_eq_getElem?_getD,List.getElem?_eq_getElem hj];exact List.getElem_mem _))
 have hor:∀ y,y ∈ sortS (vals ++consts)→y ∈ sortS consts∨∃ j,j < vals.length∧vals.getD j 0=y:=fun y hy=>by
  rcases List.mem_append.1 ((hLm y).1 hy) with h|h
  · obtain⟨j,hj,e⟩:=List.getElem_of_mem h
    exact .inr ⟨j,hj,by rw[List.getD_eq_getElem?_getD,List.getElem?_eq_getElem hj];exact e⟩
  · exact .inl ((hCm y).2 h)
 generalize sortS (vals ++consts)=L at *
 generalize sortS consts=C at *
 have hflt:L.filter (fun y=>decide (y ∈ C))=C:=by
  refine int_uniq (hL.filter _) hC fun z=>?_
  rw[List.mem_filter,decide_eq_true_eq]
  exact⟨fun h=>h.2,fun h=>⟨hsub z h,h⟩⟩
 have hfix:=fix_map vals C L L.length (Nat.le_refl _)
 rw[List.take_length,hflt] at hfix
 obtain⟨f1,f2,f3⟩:=hfix
 have hlen: (L.map (clsF' vals C)).length=L.length:=List.length_map ..
 refine⟨by omega,⟨fun k x y hk=>?_,?_,?_⟩,⟨by rw[gapsZ_len,hlen],gapsZ_bd' _ (by omega) _⟩,?_,fun i a b ha hb=>?_⟩
 · rw[List.getElem?_map] at hk
   cases hy:L[k]? with
   | none=>rw[hy] at hk;cases hk
   | some z=>
     rw[hy] at hk
     obtain⟨hkl,hz⟩:=List.getElem?_eq_some_iff.1 hy
     have hxy:clsF' vals C z= (x,y):=by simpa using hk
     have hx:x= ((ofB fun j=>decide (j < vals.length) && pZ vals z j:Nat):Int):=by
      have h1: (clsF' vals C z).1=_:=attrZ_ofB (pZ vals z) vals.length hv
      rw[hxy] at h1;exact h1
     have hyc:y=constZ C z C.length:=by
      have h1: (clsF' vals C z).2=constZ C z C.length:=rfl
      rw[hxy] at h1;exact h1
     have hlow:∀ u ∈ L.take k,u < z:=fun u hu=>by
      obtain⟨i,hi,e⟩:=List.getElem_of_mem hu
      rw[List.length_take] at hi
      rw[List.getElem_take] at e
      have:=List.pairwise_iff_getElem.1 hL i k (by omega) hkl (by omega)
      omega
     rw[←List.map_take,or_map vals C hv,nx_map vals C]
     refine⟨by rw[hx];omega,?_,?_,?_⟩
     · rw[hx]
       refine and_ofB0 _ _ fun j _=>?_
       rw[Bool.and_eq_false_iff]
       by_cases hp:pZ vals z j=true
       · right
         have hz1:vals.getD j 0=z:=by simpa [pZ] using hp
         rw[Bool.and_eq_false_iff]
         right
         refine List.any_eq_false.2 fun u hu=>?_
         have:=hlow u hu
         show ¬(pZ vals u j=true)
         unfold pZ
         rw[beq_iff_eq]
         omega
       · left;simp[hp]
     · intro hx0 hy1
       rw[hyc,const_mem] at hy1
       have hzL:z ∈ L:=List.mem_of_getElem? hy
       rcases hor z hzL with h| ⟨j,hj,e⟩
       · exact hy1 h
       · rw[hx] at hx0
         have h0:ofB (fun j=>decide (j < vals.length) && pZ vals z j)=0:=by omega
         have h9:=(ofB_zero _).1 h0 j (by omega)
         have h8:pZ vals z j=true:=by unfold pZ;rw[beq_iff_eq];exact e
         rw[h8] at h9
         simp[hj] at h9
     · rw[hyc]
       by_cases hzC:z ∈ C
       · right
         have hsp:C= (L.take k).filter (fun y=>decide (y ∈ C)) ++z :: (L.drop (k+1)).filter (fun y=>decide (y ∈ C)):=by
          conv=>lhs;rw[←hflt]
          conv=>lhs;rw[←List.take_append_drop k L]
          rw[List.filter_append,List.drop_eq_getElem_cons hkl,hz,List.filter_cons,if_pos (by simpa using hzC)]
         have hat:C[((L.take k).filter (fun y=>decide (y ∈ C))).length]?=some z:=by
          have h9:=congrArg (fun M:List Int=>M[((L.take k).filter (fun y=>decide (y ∈ C))).length]?) hsp
          rw[h9,List.getElem?_append_right (Nat.le_refl _),Nat.sub_self];rfl
         exact constZ_at C _ z hC hat C.length (List.getElem?_eq_some_iff.1 hat).1 (Nat.le_refl _)
       · left;exact(const_mem C z).2 hzC
 · rw[or_map vals C hv]
   have hcl:clamp (vals.length:Int)=vals.length:=by unfold clamp;omega
   have h0:0≤firstZ (vals.length:Int)∧firstZ (vals.length:Int) < 2147483648:=by
    unfold firstZ
    rw[hcl]
    have: (2:Nat) ^ vals.length≤2 ^ 31:=Nat.pow_le_pow_right (by omega) hv
    have h2: (2:Nat) ^ 31=2147483648:=by decide
    have h3:0 < (2:Nat) ^ vals.length:=Nat.pow_pos (by omega)
    omega
   rw[←ofB_self h0.1 h0.2]
   refine congrArg (fun n:Nat=>(n:Int)) (ofB_congr _ _ fun j hj=>?_)
   rw[hasN_first _ j hj,hcl]
   by_cases h:j < vals.length
   · have: (L.any fun y=>pZ vals y j)=true:=List.any_eq_true.2 ⟨_,hval j h,by simp[pZ]⟩
     simp[h,this]
   · simp[h]
 · rw[nx_map vals C,hflt]
 · rw[hlen,←List.length_map (f:=fun p:Int=>L.getD p.toNat 0),f1]
 · rw[hlen]
   have fa:∀ (i:Nat) (a:Int),C[i]?=some a→∃ p:Nat,(fixL (L.map (clsF' vals C)) L.length)[i]?=some (p:Int)∧L[p]?=some a:=by
    intro i a ha
    have h1:=ha
    rw[←f1,List.getElem?_map] at h1
    cases hp: (fixL (L.map (clsF' vals C)) L.length)[i]? with
    | none=>rw[hp] at h1;cases h1
    | some p=>
      rw[hp] at h1
      obtain⟨b0,b1⟩:=f2 p (List.mem_of_getElem? hp)
      refine⟨p.toNat,by rw[show((p.toNat:Nat):Int)=p by omega],?_⟩
      simp only[Option.map_some,Option.some.injEq] at h1
      have hlt:p.toNat < L.length:=by omega
      rw[List.getD_eq_getElem?_getD,List.getElem?_eq_getElem hlt] at h1
      rw[List.getElem?_eq_getElem hlt]
      exact congrArg some h1
   obtain⟨p,hp,hpa⟩:=fa i a ha
   obtain⟨q,hq,hqb⟩:=fa (i+1) b hb
   obtain⟨i1,e1⟩:=List.getElem?_eq_some_iff.1 hp
   obtain⟨i2,e2⟩:=List.getElem?_eq_some_iff.1 hq
   have hlt:=List.pairwise_iff_getElem.1 f3 i (i+1) i1 i2 (by omega)
   rw[e1,e2] at hlt
   have hql:=(List.getElem?_eq_some_iff.1 hqb).1
   exact⟨p,q,hp,hq,by omega,by rw[gapsZ_len];omega,fits_of L hL (kap r) p q a b (by omega) hpa hqb⟩
end Go.Proofs.YtkkoooagamadjaaGreatDoor
namespace Go.Proofs.YtkkoooagamadjaaGreatDoor
open Go.RowKit
def othL (s a:Int):List Int:=listZ (putZ s a false) 31
theorem othN (s a:Int) (k:Nat) (hk:k < 31):hasN (putZ s a false) k= (hasB s k && decide ((k:Int)≠a)):=by
 unfold putZ
 rw[hasN_ofB _ _ hk]
 unfold hasB
 by_cases h: (k:Int)=a
 · rw[if_pos h];simp[h]
 · rw[if_neg h,if_pos (by omega)];simp[h]
theorem oth_first (s a:Int) (k:Nat) (hk:k < 31) (h1: (k:Int)≠a) (h2:hasB s k=true) (h3:∀ j:Nat,j < k→(hasB s j && decide ((j:Int)≠a))=false): (othL s a).head?=some (k:Int):=by
 unfold othL listZ
 rw[List.head?_map,List.head?_filter,List.find?_range_eq_some.2 ⟨by rw[othN _ _ _ hk,h2];simpa using h1,by simpa using hk,fun j hj=>by rw[othN _ _ _ (by omega),h3 j hj];rfl⟩]
 rfl
theorem oth_none (s a:Int) (h:∀ j:Nat,j < 31→(hasB s j && decide ((j:Int)≠a))=false):othL s a= []:=by
 unfold othL listZ
 rw[List.map_eq_nil_iff,List.filter_eq_nil_iff]
 intro j hj
 have hj:=List.mem_range.1 hj
 rw[othN _ _ _ hj,h j hj];simp
theorem oth_zero (s a:Int):putZ s a false=0 ↔ othL s a= []:=by
 have h0:putZ s a false=0 ↔ ∀ j:Nat,j < 31→hasN (putZ s a false) j=false:=by
  constructor
  · intro h j hj
    rw[h];unfold hasN;simp
  · intro h
    have h1:=putZ_bd s a false
    have h2:putZ s a false= ((lo (putZ s a false):Nat):Int):=by unfold lo;omega
    rw[h2,lo_ofB,(ofB_zero _).2 h];rfl
 rw[h0]
 unfold othL listZ
 rw[List.map_eq_nil_iff,List.filter_eq_nil_iff]
 constructor
 · intro h j hj;rw[h j (List.mem_range.1 hj)];simp
 · intro h j hj
   have:=h j (List.mem_range.2 hj)
   simpa using this
theorem oth_mem (s a b:Int):b ∈ othL s a ↔ (0≤b∧b≤30∧b≠a∧hasB s b=true):=by
 unfold othL listZ
 rw[List.mem_map]
 constructor
 · rintro⟨k,hk,rfl⟩
   obtain⟨h1,h2⟩:=List.mem_filter.1 hk
   have h1:=List.mem_range.1 h1
   rw[othN _ _ _ h1,Bool.and_eq_true,decide_eq_true_iff] at h2
   exact⟨by omega,by omega,h2.2,h2.1⟩
 · rintro⟨h0,h1,h2,h3⟩
   refine⟨b.toNat,List.mem_filter.2 ⟨List.mem_range.2 (by omega),?_⟩,by omega⟩
   rw[othN _ _ _ (by omega),Bool.and_eq_true,decide_eq_true_iff]
   have e: ((b.toNat:Nat):Int)=b:=by omega
   rw[e];exact⟨h3,h2⟩
def numC (cl:List (Int × Int)) (i:Nat) (a:Int) (vals cs:List Int):Option Int:=
 if 0≤(cl.getD i (0,-1)).2 then cs[(cl.getD i (0,-1)).2.toNat]? else(othL (cl.getD i (0,-1)).1 a).head?.bind fun b=>vals[b.toNat]?
def sharC (cl:List (Int × Int)) (i:Nat) (a:Int):Bool:=decide (0≤(cl.getD i (0,-1)).2) || !(othL (cl.getD i (0,-1)).1 a).isEmpty
def besN (n:Option Int) (d:Int):Int × Int:=
 match n with
 | none=>(0,12)
 | some n=>if -9223372036854775808≤n+d∧n+d≤9223372036854775807 then(n+d,0) else(0,14)
def numZ (z:Zn) (a:Int) (vals cs:List Int) (r:Int):Int × Int:=
 if z.1.length≤atZ a z.1 then(0,12)
 else if sharC z.1 (atZ a z.1) a then(match numC z.1 (atZ a z.1) a vals cs with|none=>(0,12)|some n=>(n,0))
 else if z.1.length=1 then(0,0)
 else if z.2.length≠z.1.length - 1 then(0,12)
 else if atZ a z.1=0∨(atZ a z.1 < z.1.length - 1∧z.2.getD (atZ a z.1 - 1) 0=kap r∧z.2.getD (atZ a z.1) 0≠kap r) then besN (numC z.1 (atZ a z.1+1) a vals cs) (-(z.2.getD (atZ a z.1) 0) - 1)
 else besN (numC z.1 (atZ a z.1 - 1) a vals cs) (z.2.getD (atZ a z.1 - 1) 0+1)
def w64 (r:Int):Int:=IntKind.i64.wrap r
def writeG:Int→List Int→List Zn→List Zn
 | _,[],zs=>zs
 | r,a :: l,zs=>writeG (w64 (r - 1)) l (wrStep a r zs)
def pickZ (tz:Zn) (cs:List Int):List Int→Zn→List Int→Int→List Int × Int
 | [],_,_,_=>([],0)
 | a :: l,z,now,r=>
   match (wrOne a r z).find? (fun x=>decide (tz ∈ writeG (r - 1) l [x])) with
   | none=>([],12)
   | some x=>
     if(now.length:Int)≤a then([],12)
     else if(numZ x a now cs (r - 1)).2≠0 then([],(numZ x a now cs (r - 1)).2)
     else((numZ x a now cs (r - 1)).1 :: (pickZ tz cs l x (now.set a.toNat (numZ x a now cs (r - 1)).1) (r - 1)).1,(pickZ tz cs l x (now.set a.toNat (numZ x a now cs (r - 1)).1) (r - 1)).2)
def valsZ (z tz:Zn) (l vals cs:List Int) (r:Int):List Int × Int:=
 if tz ∈ writeG r l [z] then(if(pickZ tz cs l z vals r).2=0 then((pickZ tz cs l z vals r).1,0) else([],(pickZ tz cs l z vals r).2)) else([],12)
theorem num_cls {vals consts:List Int} {a:Nat} (hn:vals.length≤31) (cl:List (Int × Int)) (i:Nat) (y:Int) (hy:y ∈ othZ vals consts a) (hc:cl.getD i (0,-1)=clsO vals consts a y∨cl.getD i (0,-1)= (putZ (clsO vals consts a y).1 a true,(clsO vals consts a y).2)) :
 numC cl i a vals (sortS consts)=some y∧sharC cl i a=true:=by
 have h2: (cl.getD i (0,-1)).2= (clsO vals consts a y).2:=by rcases hc with h|h <;> rw[h]
 have ho:∀ b,b ∈ othL (cl.getD i (0,-1)).1 a ↔ (0≤b∧b≤30∧b≠a∧hasB (clsO vals consts a y).1 b=true):=by
  intro b
  rw[oth_mem]
  rcases hc with h|h
  · rw[h]
  · rw[h]
    constructor
    · rintro⟨h0,h1,h3,h4⟩
      rw[hasB_putZ,if_pos ⟨h0,h1⟩,if_neg h3] at h4
      exact⟨h0,h1,h3,h4⟩
    · rintro⟨h0,h1,h3,h4⟩
      refine⟨h0,h1,h3,?_⟩
      rw[hasB_putZ,if_pos ⟨h0,h1⟩,if_neg h3];exact h4
 have hC:=sortS_ok consts
 by_cases hm:y ∈ sortS consts
 · obtain⟨k,hk,e⟩:=List.getElem_of_mem hm
   have hq: (clsO vals consts a y).2= (k:Int):=constZ_at _ k y hC.1 (by rw[List.getElem?_eq_getElem hk,e]) _ hk (Nat.le_refl _)
   unfold numC sharC
   rw[h2,hq]
   refine⟨?_,by simp⟩
   rw[if_pos (by omega)]
   simp only[Int.toNat_natCast]
   rw[List.getElem?_eq_getElem hk,e]
 · have hq: (clsO vals consts a y).2= -1:=(const_mem _ _).2 hm
   have hex:∃ k,k < vals.length∧k≠a∧vals.getD k 0=y:=by
    rcases(mem_oth _ _ _ _).1 hy with h|h
    · exact absurd ((hC.2 y).2 h) hm
    · exact h
   obtain⟨k,hk,hka,hkv⟩:=hex
   have hb:∀ b,(b ∈ othL (cl.getD i (0,-1)).1 a→∃ j:Nat,(j:Int)=b∧j < vals.length∧vals.getD j 0=y):=by
    intro b hb
    obtain⟨h0,h1,h3,h4⟩:=(ho b).1 hb
    unfold clsO clsZ at h4
    obtain⟨j,e1,e2,e3⟩:=(attrZ_has _ _ hn _).1 h4
    unfold pS at e3
    rw[Bool.and_eq_true,beq_iff_eq] at e3
    exact⟨j,e1,e2,e3.2⟩
   have hin: (k:Int) ∈ othL (cl.getD i (0,-1)).1 a:=by
    rw[ho]
    refine⟨by omega,by omega,by omega,?_⟩
    unfold clsO clsZ
    refine(attrZ_has _ _ hn _).2 ⟨k,rfl,hk,?_⟩
    unfold pS
    rw[inn_get _ _ _ hk,hkv]
    simp[hka]
   unfold numC sharC
   rw[h2,hq]
   cases hl:othL (cl.getD i (0,-1)).1 a with
   | nil=>rw[hl] at hin;cases hin
   | cons b t=>
     obtain⟨j,e1,e2,e3⟩:=hb b (by rw[hl];simp)
     refine⟨?_,by simp⟩
     rw[if_neg (by omega)]
     show vals[b.toNat]?=some y
     rw[←e1,Int.toNat_natCast]
     rw[List.getD_eq_getElem?_getD,List.getElem?_eq_getElem e2] at e3
     rw[List.getElem?_eq_getElem e2]
     exact congrArg some e3
theorem at_bet {vals consts:List Int} {a:Nat} (hn:vals.length≤31) (ha:a < vals.length) (P R:List Int) (x h:Int):atZ a (betZ (clsO vals consts a) a h P R x).1=P.length:=by
 unfold betZ
 have:=atZ_split a (P.map (clsO vals consts a)) (R.map (clsO vals consts a)) (bitZ a,-1) (fun c hc=>by
  obtain⟨y,_,rfl⟩:=List.mem_map.1 hc
  exact clsO_has vals consts a y hn) (hasB_bit 0 a (by omega) (by omega))
 rw[List.length_map] at this
 rw[List.append_assoc]
 exact this
theorem at_with {vals consts:List Int} {a:Nat} (hn:vals.length≤31) (ha:a < vals.length) (P R:List Int) (x h:Int):atZ a (withZ (clsO vals consts a) a h P R x).1=P.length:=by
 unfold withZ
 have:=atZ_split a (P.map (clsO vals consts a)) (R.map (clsO vals consts a)) (putZ (clsO vals consts a x).1 a true,(clsO vals consts a x).2) (fun c hc=>by
  obtain⟨y,_,rfl⟩:=List.mem_map.1 hc
  exact clsO_has vals consts a y hn) (hasB_bit _ a (by omega) (by omega))
 rw[List.length_map] at this
 rw[List.append_assoc]
 exact this
theorem bit_oth (a:Int):othL (bitZ a) a= []:=by
 refine oth_none _ _ fun j hj=>?_
 by_cases h: (j:Int)=a
 · simp[h]
 · unfold bitZ
   rw[hasB_putZ]
   split
   · unfold hasB hasN;simp
   · rfl
theorem gaps_at (c:Int) (P R:List Int) (x:Int) :
 (∀ y T,R=y :: T→(gapsZ c (P ++x :: R)).getD P.length 0=gapZ x y c)∧(∀ Q b,P=Q ++ [b]→(gapsZ c (P ++x :: R)).getD (P.length - 1) 0=gapZ b x c):=by
 refine⟨fun y T hR=>?_,fun Q b hP=>?_⟩
 · subst hR
   rw[gapsZ_app,List.getD_eq_getElem?_getD,List.getElem?_append_right (by rw[gapsZ_len];simp)]
   rw[gapsZ_len];simp
 · subst hP
   rw[List.append_assoc,List.singleton_append,gapsZ_app,List.getD_eq_getElem?_getD,List.getElem?_append_right (by rw[gapsZ_len];simp)]
   rw[gapsZ_len];simp
theorem split_at {x:Int}:∀ {L:List Int},L.Pairwise (· < ·)→x ∉ L→∃ P R,L=P ++R∧(P ++x :: R).Pairwise (· < ·)
 | [],_,_=>⟨[],[],rfl,by simp⟩
 | y :: T,hs,hx=>by
   obtain⟨hs1,hs2⟩:=List.pairwise_cons.1 hs
   by_cases hyx:x < y
   · refine⟨[],y :: T,rfl,List.pairwise_cons.2 ⟨fun t ht=>?_,hs⟩⟩
     rcases List.mem_cons.1 ht with rfl|ht
     · exact hyx
     · have:=hs1 t ht;omega
   · have hne:x≠y:=fun e=>hx (by rw[e];simp)
     obtain⟨P,R,rfl,hp⟩:=split_at hs2 (fun h=>hx (List.mem_cons_of_mem _ h))
     refine⟨y :: P,R,rfl,List.pairwise_cons.2 ⟨fun t ht=>?_,hp⟩⟩
     rcases List.mem_append.1 ht with ht|ht
     · exact hs1 t (List.mem_append_left _ ht)
     · rcases List.mem_cons.1 ht with rfl|ht
       · omega
       · exact hs1 t (List.mem_append_right _ ht)
theorem gaps_same (c:Int) (P R:List Int) (x n:Int) (h1:∀ y T,R=y :: T→gapZ n y c=gapZ x y c) (h2:∀ Q b,P=Q ++ [b]→gapZ b n c=gapZ b x c):gapsZ c (P ++n :: R)=gapsZ c (P ++x :: R):=by
 have hR:gapsZ c (n :: R)=gapsZ c (x :: R):=by
  cases R with
  | nil=>rfl
  | cons y T=>show gapZ n y c :: _=gapZ x y c :: _;rw[h1 y T rfl]
 rcases nil_or_snoc P with rfl| ⟨Q,b,rfl⟩
 · exact hR
 · rw[List.append_assoc,List.singleton_append,List.append_assoc,List.singleton_append,gapsZ_app,gapsZ_app,hR,h2 Q b rfl]
theorem bet_same {vals consts:List Int} {a:Nat} (hn:vals.length≤31) (ha:a < vals.length) (r:Int) (P R:List Int) (x n:Int) (h:othZ vals consts a=P ++R) (hs: (P ++x :: R).Pairwise (· < ·)) (hb1:∀ Q b,P=Q ++ [b]→b < n) (hb2:∀ y T,R=y :: T→n < y) (hg:gapsZ (kap (r - 1)) (P ++n :: R)=gapsZ (kap (r - 1)) (P ++x :: R)) :
 allX vals consts a r n=betZ (clsO vals consts a) a (kap (r - 1)) P R x:=by
 have hs2: (P ++n :: R).Pairwise (· < ·):=by
  rw[List.pairwise_append] at hs ⊢
  obtain⟨q1,q2,q3⟩:=hs
  rw[List.pairwise_cons] at q2 ⊢
  obtain⟨q2,q4⟩:=q2
  have hPn:∀ p ∈ P,p < n:=by
   intro p hp
   rcases nil_or_snoc P with rfl| ⟨Q,b,rfl⟩
   · cases hp
   · have hbn:=hb1 Q b rfl
     rcases List.mem_append.1 hp with hp|hp
     · have:=(List.pairwise_append.1 q1).2.2 p hp b (by simp);omega
     · have hp:=List.mem_singleton.1 hp;omega
  have hnR:∀ y ∈ R,n < y:=by
   intro y hy
   cases R with
   | nil=>cases hy
   | cons t T=>
     have ht:=hb2 t T rfl
     rcases List.mem_cons.1 hy with hy|hy
     · omega
     · have:=(List.pairwise_cons.1 q4).1 y hy;omega
  refine⟨q1,⟨hnR,q4⟩,fun p hp y hy=>?_⟩
  rcases List.mem_cons.1 hy with hy|hy
  · rw[hy];exact hPn p hp
  · exact q3 p hp y (List.mem_cons_of_mem _ hy)
 rw[all_bet vals consts a r n hn ha P R h hs2]
 unfold betZ
 rw[hg]
theorem pick_num {vals consts:List Int} {a:Nat} (hn:vals.length≤31) (ha:a < vals.length) (r x0 n:Int) (h:numZ (allX vals consts a r x0) a vals (sortS consts) (r - 1)= (n,0)):allX vals consts a r n=allX vals consts a r x0:=by
 have hs: (othZ vals consts a).Pairwise (· < ·):=(sortS_ok _).1
 by_cases hx:x0 ∈ othZ vals consts a
 · obtain⟨P,R,hPR⟩:=List.append_of_mem hx
   have e:=all_with vals consts a r x0 hn ha P R hPR
   rw[e] at h
   have hat:=at_with (consts:=consts) hn ha P R x0 (kap (r - 1))
   have hg: (withZ (clsO vals consts a) a (kap (r - 1)) P R x0).1.getD P.length (0,-1)= (putZ (clsO vals consts a x0).1 a true,(clsO vals consts a x0).2):=by
    unfold withZ
    rw[List.getD_eq_getElem?_getD,List.append_assoc,List.getElem?_append_right (by simp)]
    simp
   have hl:P.length < (withZ (clsO vals consts a) a (kap (r - 1)) P R x0).1.length:=by unfold withZ;simp
   obtain⟨k1,k2⟩:=num_cls hn _ P.length x0 hx (.inr hg)
   unfold numZ at h
   rw[hat,if_neg (by omega),k2,if_pos rfl,k1] at h
   simp only[Prod.mk.injEq,and_true] at h
   rw[h]
 · obtain⟨P,R,hPR,hsx⟩:∃ P R,othZ vals consts a=P ++R∧(P ++x0 :: R).Pairwise (· < ·):=split_at hs hx
   have e:=all_bet vals consts a r x0 hn ha P R hPR hsx
   rw[e] at h ⊢
   have hat:=at_bet (consts:=consts) hn ha P R x0 (kap (r - 1))
   have hcl: (betZ (clsO vals consts a) a (kap (r - 1)) P R x0).1=P.map (clsO vals consts a) ++ [(bitZ a,-1)] ++R.map (clsO vals consts a):=rfl
   have hgl: (betZ (clsO vals consts a) a (kap (r - 1)) P R x0).2=gapsZ (kap (r - 1)) (P ++x0 :: R):=rfl
   have hl: (betZ (clsO vals consts a) a (kap (r - 1)) P R x0).1.length=P.length+R.length+1:=by rw[hcl];simp;omega
   have hl2: (betZ (clsO vals consts a) a (kap (r - 1)) P R x0).2.length=P.length+R.length:=by rw[hgl,gapsZ_len];simp
   have hsh:sharC (betZ (clsO vals consts a) a (kap (r - 1)) P R x0).1 P.length a=false:=by
    have hg: (betZ (clsO vals consts a) a (kap (r - 1)) P R x0).1.getD P.length (0,-1)= (bitZ a,-1):=by
     rw[hcl,List.getD_eq_getElem?_getD,List.append_assoc,List.getElem?_append_right (by simp)]
     simp
    unfold sharC
    rw[hg,bit_oth];rfl
   have hfore:∀ Q b,P=Q ++ [b]→numC (betZ (clsO vals consts a) a (kap (r - 1)) P R x0).1 (P.length - 1) a vals (sortS consts)=some b:=by
    intro Q b hP
    refine(num_cls hn _ _ b (by rw[hPR,hP];simp) (.inl ?_)).1
    rw[hcl,hP,List.getD_eq_getElem?_getD,List.append_assoc,List.getElem?_append_left (by simp),List.map_append,List.getElem?_append_right (by simp)]
    simp
   have hbehind:∀ y T,R=y :: T→numC (betZ (clsO vals consts a) a (kap (r - 1)) P R x0).1 (P.length+1) a vals (sortS consts)=some y:=by
    intro y T hR
    refine(num_cls hn _ _ y (by rw[hPR,hR];simp) (.inl ?_)).1
    rw[hcl,hR,List.getD_eq_getElem?_getD,List.getElem?_append_right (by simp)]
    simp
   obtain⟨g1,g2⟩:=gaps_at (kap (r - 1)) P R x0
   rw[←hgl] at g1 g2
   have hlo:∀ Q b,P=Q ++ [b]→b < x0:=fun Q b hP=>(List.pairwise_append.1 hsx).2.2 b (by rw[hP];simp) x0 (by simp)
   have hhi:∀ y T,R=y :: T→x0 < y:=fun y T hR=>(List.pairwise_cons.1 (List.pairwise_append.1 hsx).2.1).1 y (by rw[hR];simp)
   have hk0: (0:Int)≤(kap (r - 1):Int):=by omega
   unfold numZ at h
   rw[hat,if_neg (by omega),hsh,if_neg (by simp),hl,hl2] at h
   obtain⟨K,hK⟩:∃ K:Int,(kap (r - 1):Int)=K:=⟨_,rfl⟩
   rw[hK] at h g1 g2 hk0 hfore hbehind
   have hfin:∀ m,(∀ Q b,P=Q ++ [b]→b < m∧gapZ b m K=gapZ b x0 K)→(∀ y T,R=y :: T→m < y∧gapZ m y K=gapZ x0 y K)→allX vals consts a r m=betZ (clsO vals consts a) a (kap (r - 1)) P R x0:=by
    intro m q1 q2
    refine bet_same hn ha r P R x0 m hPR hsx (fun Q b hP=>(q1 Q b hP).1) (fun y T hR=>(q2 y T hR).1) ?_
    rw[hK]
    exact gaps_same K P R x0 m (fun y T hR=>(q2 y T hR).2) (fun Q b hP=>(q1 Q b hP).2)
   have hbes:∀ (y d:Int),besN (some y) d= (n,0)→n=y+d:=by
    intro y d hb
    unfold besN at hb
    dsimp only at hb
    split at hb
    · exact(congrArg Prod.fst hb).symm
    · have:=congrArg Prod.snd hb;simp at this
   clear e hcl hgl hl hl2 hsh hat hsx hPR hs hx
   rw[hK] at *
   rcases nil_or_snoc P with hP| ⟨Q,b,hP⟩
   · cases R with
     | nil=>
       rw[hP] at h
       simp only[List.length_nil,Nat.add_zero,Nat.zero_add,if_true,Prod.mk.injEq,and_true] at h
       exact hfin n (fun Q b e=>by rw[hP] at e;simp at e) (fun y T e=>by cases e)
     | cons y T=>
       have hP0:P.length=0:=by rw[hP];rfl
       rw[if_neg (by simp only[List.length_cons];omega),if_neg (by omega),if_pos (.inl hP0),hbehind y T rfl,g1 y T rfl] at h
       have hx0:=hhi y T rfl
       have hn:=hbes _ _ h
       refine hfin n (fun Q b e=>by rw[hP] at e;simp at e) (fun y' T' e=>?_)
       obtain⟨rfl,rfl⟩:=List.cons.inj e
       unfold gapZ at hn ⊢
       omega
   · have hPl:1≤P.length:=by rw[hP];simp
     have hbx:=hlo Q b hP
     have hsnoc:∀ Q' b',P=Q' ++ [b']→b'=b:=by
      intro Q' b' e
      rw[hP] at e
      have:=congrArg List.getLast? e
      simpa using this.symm
     cases R with
     | nil=>
       rw[if_neg (by simp only[List.length_nil];omega),if_neg (by omega),if_neg (by simp only[List.length_nil];omega),hfore Q b hP,g2 Q b hP] at h
       have hn:=hbes _ _ h
       refine hfin n (fun Q' b' e=>?_) (fun y T e=>by cases e)
       rw[hsnoc Q' b' e]
       unfold gapZ at hn ⊢
       omega
     | cons y T=>
       have hxy:=hhi y T rfl
       rw[if_neg (by simp only[List.length_cons];omega),if_neg (by omega),g1 y T rfl,g2 Q b hP,hfore Q b hP,hbehind y T rfl] at h
       have hcase: (gapZ b x0 K=K∧gapZ x0 y K≠K∧n=y+ (-(gapZ x0 y K) - 1))∨(¬(gapZ b x0 K=K∧gapZ x0 y K≠K)∧n=b+ (gapZ b x0 K+1)):=by
        by_cases q:gapZ b x0 K=K∧gapZ x0 y K≠K
        · rw[if_pos (.inr ⟨by simp only[List.length_cons];omega,q⟩)] at h
          exact .inl ⟨q.1,q.2,hbes _ _ h⟩
        · rw[if_neg (by rintro(e|e);· omega
                        · exact q e.2)] at h
          exact .inr ⟨q,hbes _ _ h⟩
       have hgoal: (b < n∧gapZ b n K=gapZ b x0 K)∧(n < y∧gapZ n y K=gapZ x0 y K):=by
        unfold gapZ at hcase ⊢
        omega
       refine hfin n (fun Q' b' e=>?_) (fun y' T' e=>?_)
       · rw[hsnoc Q' b' e];exact hgoal.1
       · obtain⟨rfl,rfl⟩:=List.cons.inj e
         exact hgoal.2
end Go.Proofs.YtkkoooagamadjaaGreatDoor
