import Derived.Test.YtkkoooagamadjaaGreatDoorPk37
import Derived.Test.YtkkoooagamadjaaGreatDoorPk30
namespace Go.Proofs.YtkkoooagamadjaaGreatDoor
open Go.RowKit
theorem putL_none (cl:List (Int × Int)) (gl:List Int) (a r:Int) (h:r < 1):putL cl gl a r= []:=by unfold putL;rw[if_pos h]
theorem wrOne_none (a r:Int) (z:Zn) (h:r < 1):wrOne a r z= []:=by unfold wrOne;exact putL_none _ _ _ _ h
theorem wrStep_nil (a r:Int):wrStep a r []= []:=by unfold wrStep;rfl
theorem writeG_nil:∀ (l:List Int) (r:Int),writeG r l []= []
 | [],_=>rfl
 | a :: l,r=>by rw[writeG,wrStep_nil];exact writeG_nil l _
theorem writeG_none (l:List Int) (r:Int) (z:Zn) (h:r < 1) (hl:l≠[]):writeG r l [z]= []:=by
 cases l with
 | nil=>exact absurd rfl hl
 | cons a l=>
   rw[writeG]
   have e:wrStep a r [z]= []:=by
    unfold wrStep
    rw[List.flatMap_cons,wrOne_none a r z h];rfl
   rw[e];exact writeG_nil l _
theorem w64_in (r:Int) (h0:-9223372036854775808≤r) (h1:r≤9223372036854775807):w64 r=r:=IntWalk.i64_in _ ⟨by omega,by omega⟩
theorem w64_bd (r:Int):-9223372036854775808≤w64 r∧w64 r≤9223372036854775807:=by
 unfold w64
 rw[IntKind.wrap_i64];omega
theorem cut_take (gl:List Int) (n i:Nat) (r:Int) (h:gl.length=n - 1) (hi:i < n) (h1:1≤i):gl.take (i - 1)= (cutG gl n i r).take (i - 1):=by
 unfold cutG
 rw[if_neg (by omega),if_neg (by omega)]
 split
 · rw[List.eraseIdx_eq_take_drop_succ,List.take_append_of_le_length (by rw[List.length_take];omega),List.take_take,Nat.min_eq_left (by omega)]
 · rw[List.eraseIdx_eq_take_drop_succ,List.take_append_of_le_length (by rw[List.length_take,List.length_set];omega),List.take_take,Nat.min_eq_left (by omega),List.take_set_of_le (by omega)]
theorem cut_behind (gl:List Int) (n i:Nat) (r:Int) (_h:gl.length=n - 1) (hi:i < n) (j:Nat) (h1:i+2≤j) (h2:j≤n - 1):gl.getD (j - 1) 0= (cutG gl n i r).getD (j - 2) 0:=by
 unfold cutG
 rw[if_neg (by omega)]
 by_cases h0:i=0
 · subst h0
   rw[if_pos rfl,List.getD_eq_getElem?_getD,List.getD_eq_getElem?_getD,List.getElem?_eraseIdx_of_ge (by omega)]
   congr 2;omega
 · rw[if_neg h0,if_neg (by omega),List.getD_eq_getElem?_getD,List.getD_eq_getElem?_getD,List.getElem?_eraseIdx_of_ge (by omega),List.getElem?_set_ne (by omega)]
   congr 2;omega
theorem cut_at (gl:List Int) (n i:Nat) (r:Int) (h:gl.length=n - 1) (h1:1≤i) (h2:i+1 < n):klip (klip (gl.getD (i - 1) 0) r+klip (gl.getD i 0) r+1) r= (cutG gl n i r).getD (i - 1) 0:=by
 unfold cutG
 rw[if_neg (by omega),if_neg (by omega),if_neg (by omega),List.getD_eq_getElem?_getD (l:=List.eraseIdx _ _),List.getElem?_eraseIdx_of_lt (by omega),List.getElem?_set_self (by omega)]
 rfl
theorem wo_cut (P R:List (Int × Int)) (c:Int × Int) (gl:List Int) (r:Int) (h:gl.length=P.length+R.length):woS (P ++c :: R) gl P.length r (P ++c :: R).length= (P ++R,cutG gl (P ++c :: R).length P.length r):=by
 have hl: (P ++c :: R).length=P.length+1+R.length:=by simp;omega
 rw[hl]
 refine woS_all P R c gl _ r (cut_take gl _ _ r (by omega) (by omega)) ?_ h (fun j h1 h2=>cut_behind gl _ _ r (by omega) (by omega) j h1 (by omega)) (fun h1 h2=>cut_at gl _ _ r (by omega) h1 (by omega))
 rw[cutG_len gl _ _ r (by omega) (by omega)];omega
theorem dropGo_end (a r:Int):∀ (f i:Nat) (cl:List (Int × Int)) (gl:List Int),cl.length≤i→dropGo a r f i cl gl= (cl,gl)
 | 0,_,_,_,_=>rfl
 | f+1,i,cl,gl,h=>by
   rw[dropGo,List.getD_eq_getElem?_getD,List.getElem?_eq_none h]
   have e:hasB (((none:Option (Int × Int)).getD (0,0)).1) a=false:=by
    show hasB 0 a=false
    unfold hasB hasN;split <;> simp
   rw[if_pos e]
   exact dropGo_end a r f (i+1) cl gl (by omega)
theorem drpS_go (a r:Int):∀ (f i:Nat) (cl:List (Int × Int)) (gl:List Int),gl.length=cl.length - 1→drpS a r f (cl,gl) i=dropGo a r f i cl gl
 | 0,_,_,_,_=>rfl
 | f+1,i,cl,gl,h=>by
   by_cases hi:cl.length≤i
   · rw[dropGo_end a r (f+1) i cl gl hi]
     unfold drpS
     rw[if_pos hi]
   · have hlt:i < cl.length:=by omega
     have e1:cl.getD i (0,-1)=cl[i]:=by rw[List.getD_eq_getElem?_getD,List.getElem?_eq_getElem hlt];rfl
     have e2:cl.getD i (0,0)=cl[i]:=by rw[List.getD_eq_getElem?_getD,List.getElem?_eq_getElem hlt];rfl
     unfold drpS dropGo
     dsimp only
     rw[if_neg hi,e1,e2]
     by_cases hb:hasB cl[i].1 a=false
     · rw[if_pos hb,if_pos hb];exact drpS_go a r f (i+1) cl gl h
     · rw[if_neg hb,if_neg hb]
       by_cases hz:putZ cl[i].1 a false=0∧cl[i].2= -1
       · rw[if_pos hz,if_pos hz]
         have hs:cl.set i (putZ cl[i].1 a false,cl[i].2)=cl.take i ++ (putZ cl[i].1 a false,cl[i].2) :: cl.drop (i+1):=by
          rw[List.set_eq_take_append_cons_drop,if_pos hlt]
         have hw:=wo_cut (cl.take i) (cl.drop (i+1)) (putZ cl[i].1 a false,cl[i].2) gl r (by rw[List.length_take,List.length_drop];omega)
         rw[←hs,List.length_set,List.length_take,Nat.min_eq_left (by omega)] at hw
         rw[hw]
         have he: (cl.set i (putZ cl[i].1 a false,cl[i].2)).eraseIdx i=cl.take i ++cl.drop (i+1):=by
          rw[List.eraseIdx_set_eq,List.eraseIdx_eq_take_drop_succ]
         rw[he]
         refine drpS_go a r f i _ _ ?_
         rw[cutG_len gl _ _ r h hlt,List.length_append,List.length_take,List.length_drop];omega
       · rw[if_neg hz,if_neg hz]
         exact drpS_go a r f (i+1) _ gl (by rw[List.length_set];exact h)
theorem drp_drop (a r:Int) (z:Zn) (h:z.2.length=z.1.length - 1):drpZ a r z=dropZ a r z.1 z.2:=by
 unfold drpZ dropZ
 rw[if_pos h]
 exact drpS_go a r _ 0 z.1 z.2 h
def OfP (n:Nat) (consts:List Int) (r:Int) (z:Zn):Prop:=∃ v:List Int,v.length=n∧z=ofZ v consts r
theorem ofZ_form (vals consts:List Int) (r:Int): (ofZ vals consts r).2.length= (ofZ vals consts r).1.length - 1:=by
 unfold ofZ zoneZ
 rw[gapsZ_len,List.length_map]
theorem ofZ_cls_bd (vals consts:List Int) (r:Int):∀ c ∈ (ofZ vals consts r).1,(0≤c.1∧c.1 < 2147483648)∧ -1≤c.2:=by
 intro c h
 unfold ofZ zoneZ at h
 obtain⟨x,_,rfl⟩:=List.mem_map.1 h
 unfold clsZ
 exact⟨attrZ_bd _ _,constZ_bd' _ _ _⟩
theorem ofZ_gap_bd (vals consts:List Int) (r:Int):∀ g ∈ (ofZ vals consts r).2,0≤g∧g≤kap r:=by
 intro g h
 unfold ofZ zoneZ at h
 exact gapsZ_bd' _ (by omega) _ g h
theorem kap_w4 (r:Int) (h3:r≤3):kap (r - 1)≤3∧kap (r - 2)≤1∧kap r≤7:=by
 have h:∀ q:Int,q≤3→∀ k:Nat,q≤k→kap q≤2 ^ k - 1:=by
  intro q hq k hk
  unfold kap
  have: (2:Nat) ^ kapE q≤2 ^ k:=Nat.pow_le_pow_right (by omega) (by unfold kapE;omega)
  omega
 have h1:=h (r - 1) (by omega) 2 (by omega)
 have h2:=h (r - 2) (by omega) 1 (by omega)
 have h3:=h r (by omega) 3 (by omega)
 omega
theorem pk_write (vals consts:List Int) (a:Nat) (r:Int) (hv:vals.length≤4) (hc:consts.length≤4) (ha:a < vals.length) (h3:r≤3) :
 (wrOne a r (ofZ vals consts r)).length≤3+2 * kap (r - 1)+8 * (1+ (kap (r - 1)+1) * (kap (r - 1)+1))∧∀ z ∈ wrOne a r (ofZ vals consts r),∃ x,z=ofZ (vals.set a x) consts (r - 1):=by
 by_cases h1:r < 1
 · rw[wrOne_none _ _ _ h1];simp
 rw[wrOne_of vals consts a r (by omega)]
 refine⟨?_,fun z hz=>?_⟩
 · have:=putL_len2 (somZ vals consts a r).1 (somZ vals consts a r).2 a r (kap (r - 1)) 8 (by omega) (by omega) (Nat.le_refl _) (by have:=som_len vals consts a r;omega)
   omega
 · obtain⟨lo,hi,h0,hb⟩:=bnd_ex (consts ++vals)
   obtain⟨x,_,_,e⟩:=true_comes vals consts a r lo hi (by omega) ha (by omega) (by omega) h0 (oth_in vals consts a _ _ hb) z hz
   exact⟨x,by rw[←allX_of];exact e.symm⟩
def WrG:Int→List Int→List Zn→Prop
 | _,[],_=>True
 | r,a :: l,zs=>(zs≠[]→r≤6)∧zs.length≤10000∧(∀ z ∈ zs,(z.1.length≤60∧z.2.length≤60)∧z.2.length=z.1.length - 1∧∀ c ∈ z.1,ClsOK c)∧(zs.flatMap (wrOne a r)).length≤10000∧(∀ y ∈ zs.flatMap (wrOne a r),SmallZ y∧I64 y)∧WrG (w64 (r - 1)) l (wrStep a r zs)
theorem WrG_nil:∀ (l:List Int) (r:Int),WrG r l []
 | [],_=>trivial
 | a :: l,r=>⟨fun h=>absurd rfl h,by simp,fun z h=>(by cases h),by simp,fun y h=>(by simp at h),by rw[wrStep_nil];exact WrG_nil l _⟩
theorem of_wr (v consts:List Int) (q:Int) (hv:v.length≤4) (hc:consts.length≤4): ((ofZ v consts q).1.length≤60∧(ofZ v consts q).2.length≤60)∧(ofZ v consts q).2.length= (ofZ v consts q).1.length - 1∧∀ c ∈ (ofZ v consts q).1,ClsOK c:=by
 have:=ofZ_len v consts q
 refine⟨by omega,ofZ_form v consts q,fun c h=>?_⟩
 exact(ofZ_I64 v consts q (by omega)).1 c h
theorem of_sm (v consts:List Int) (q:Int) (hv:v.length≤4) (hc:consts.length≤4):SmallZ (ofZ v consts q)∧I64 (ofZ v consts q):=by
 have:=ofZ_len v consts q
 exact⟨⟨by omega,by omega⟩,ofZ_I64 v consts q (by omega)⟩
theorem pk_ok1 (vals consts:List Int) (b:Nat) (r:Int) (hv:vals.length≤4) (hc:consts.length≤4) (hb:b < vals.length) (h3:r≤3):WrG r [(b:Int)] [ofZ vals consts r]:=by
 obtain⟨f1,f2⟩:=pk_write vals consts b r hv hc hb h3
 have hk:=kap_w4 r h3
 have e1: [ofZ vals consts r].flatMap (wrOne b r)=wrOne b r (ofZ vals consts r):=by simp
 refine⟨fun _=>by omega,by simp,fun z hz=>?_,?_,fun y hy=>?_,trivial⟩
 · rw[List.mem_singleton] at hz;subst hz;exact of_wr vals consts r hv hc
 · rw[e1]
   have: (kap (r - 1)+1) * (kap (r - 1)+1)≤4 * 4:=Nat.mul_le_mul (by omega) (by omega)
   omega
 · rw[e1] at hy
   obtain⟨x,rfl⟩:=f2 y hy
   exact of_sm _ _ _ (by rw[List.length_set];exact hv) hc
theorem pk_ok (vals consts:List Int) (l:List Int) (r:Int) (hv:vals.length≤4) (hc:consts.length≤4) (hl:l.length≤2) (hi:∀ a ∈ l,∃ k:Nat,a=k∧k < vals.length) (h3:r≤3) (hr:-9223372036854775808≤r):WrG r l [ofZ vals consts r]:=by
 match l,hl,hi with
 | [],_,_=>trivial
 | [b],_,hi=>
   obtain⟨k,rfl,hk⟩:=hi b (by simp)
   exact pk_ok1 vals consts k r hv hc hk h3
 | [a,b],_,hi=>
   obtain⟨k,rfl,hk⟩:=hi a (by simp)
   obtain⟨m,rfl,hm⟩:=hi b (by simp)
   by_cases h1:r < 1
   · obtain⟨q1,q2,q3,q4,q5,_⟩:=pk_ok1 vals consts k r hv hc hk h3
     refine⟨q1,q2,q3,q4,q5,?_⟩
     have e:wrStep (k:Int) r [ofZ vals consts r]= []:=by
      unfold wrStep
      rw[List.flatMap_cons,wrOne_none _ r _ h1];rfl
     rw[e];exact WrG_nil _ _
   · obtain⟨q1,q2,q3,q4,q5,_⟩:=pk_ok1 vals consts k r hv hc hk h3
     refine⟨q1,q2,q3,q4,q5,?_⟩
     obtain⟨f1,f2⟩:=pk_write vals consts k r hv hc hk h3
     have hkp:=kap_w4 r h3
     have e1: [ofZ vals consts r].flatMap (wrOne k r)=wrOne k r (ofZ vals consts r):=by simp
     rw[w64_in _ (by omega) (by omega)]
     have hmem:∀ z ∈ wrStep (k:Int) r [ofZ vals consts r],∃ x,z=ofZ (vals.set k x) consts (r - 1):=by
      intro z hz
      unfold wrStep at hz
      rw[uniqL_mem,e1] at hz
      exact f2 z hz
     have hlen: (wrStep (k:Int) r [ofZ vals consts r]).length≤145:=by
      unfold wrStep
      refine Nat.le_trans (uniqL_len _) ?_
      rw[e1]
      have: (kap (r - 1)+1) * (kap (r - 1)+1)≤4 * 4:=Nat.mul_le_mul (by omega) (by omega)
      omega
     have hlv:∀ x,(vals.set k x).length=vals.length:=fun x=>List.length_set ..
     have hone:∀ x,(wrOne m (r - 1) (ofZ (vals.set k x) consts (r - 1))).length≤45∧∀ z ∈ wrOne m (r - 1) (ofZ (vals.set k x) consts (r - 1)),∃ y,z=ofZ ((vals.set k x).set m y) consts (r - 2):=by
      intro x
      obtain⟨g1,g2⟩:=pk_write (vals.set k x) consts m (r - 1) (by rw[hlv];exact hv) hc (by rw[hlv];exact hm) (by omega)
      rw[show r - 1 - 1=r - 2 by omega] at g1 g2
      refine⟨?_,g2⟩
      have: (kap (r - 2)+1) * (kap (r - 2)+1)≤2 * 2:=Nat.mul_le_mul (by omega) (by omega)
      omega
     refine⟨fun _=>by omega,by omega,fun z hz=>?_,?_,fun y hy=>?_,trivial⟩
     · obtain⟨x,rfl⟩:=hmem z hz
       exact of_wr _ _ _ (by rw[hlv];exact hv) hc
     · have:=flat_len (wrOne (m:Int) (r - 1)) 45 (wrStep (k:Int) r [ofZ vals consts r]) (fun z hz=>by
        obtain⟨x,rfl⟩:=hmem z hz
        exact(hone x).1)
       have: (wrStep (k:Int) r [ofZ vals consts r]).length * 45≤145 * 45:=Nat.mul_le_mul_right _ hlen
       omega
     · obtain⟨z,hz,hy⟩:=List.mem_flatMap.1 hy
       obtain⟨x,rfl⟩:=hmem z hz
       obtain⟨u,rfl⟩:=(hone x).2 y hy
       exact of_sm _ _ _ (by rw[List.length_set,hlv];exact hv) hc
 | _ :: _ :: _ :: _,hl,_=>simp at hl
def setsL:List Int→List Int→List Int→List Int
 | [],_,v=>v
 | _ :: _,[],v=>v
 | a :: l,n :: ns,v=>setsL l ns (v.set a.toNat n)
theorem pick_len (tz:Zn) (cs:List Int):∀ (l:List Int) (z:Zn) (now:List Int) (r:Int),(pickZ tz cs l z now r).2=0→(pickZ tz cs l z now r).1.length=l.length
 | [],_,_,_,_=>rfl
 | a :: l,z,now,r,h=>by
   rw[pickZ] at h ⊢
   cases hf: (wrOne a r z).find? (fun x=>decide (tz ∈ writeG (r - 1) l [x])) with
   | none=>rw[hf] at h;simp at h
   | some x=>
     rw[hf] at h
     dsimp only at h ⊢
     by_cases q1: (now.length:Int)≤a
     · rw[if_pos q1] at h;simp at h
     · rw[if_neg q1] at h ⊢
       by_cases q2: (numZ x a now cs (r - 1)).2≠0
       · rw[if_pos q2] at h;exact absurd h q2
       · rw[if_neg q2] at h ⊢
         simp only[List.length_cons]
         rw[pick_len tz cs l _ _ _ h]
theorem pick_to (consts:List Int) (tz:Zn):∀ (l:List Int) (vals:List Int) (r:Int),vals.length≤31→(∀ a ∈ l,∃ k:Nat,a=k∧k < vals.length)→r≤20→ -9223372036854775808≤r→
 tz ∈ writeG r l [ofZ vals consts r]→(pickZ tz (sortS consts) l (ofZ vals consts r) vals r).2=0→ofZ (setsL l (pickZ tz (sortS consts) l (ofZ vals consts r) vals r).1 vals) consts (r - l.length)=tz
 | [],vals,r,_,_,_,_,hto,_=>by
   rw[writeG,List.mem_singleton] at hto
   rw[pickZ,setsL,hto]
   simp
 | a :: l,vals,r,hv,hi,h2,h0,hto,h=>by
   obtain⟨k,rfl,hk⟩:=hi a (by simp)
   have h1:1≤r:=by
    by_cases q:r < 1
    · rw[writeG_none _ _ _ q (by simp)] at hto;cases hto
    · omega
   rw[pickZ] at h ⊢
   cases hf: (wrOne k r (ofZ vals consts r)).find? (fun x=>decide (tz ∈ writeG (r - 1) l [x])) with
   | none=>rw[hf] at h;simp at h
   | some x=>
     rw[hf] at h
     dsimp only at h ⊢
     by_cases q1: (vals.length:Int)≤(k:Int)
     · omega
     · rw[if_neg q1] at h ⊢
       by_cases q2: (numZ x k vals (sortS consts) (r - 1)).2≠0
       · rw[if_pos q2] at h;exact absurd h q2
       · rw[if_neg q2] at h ⊢
         have hx:=List.mem_of_find?_eq_some hf
         have hto2:tz ∈ writeG (r - 1) l [x]:=by have:=List.find?_some hf;simpa using this
         obtain⟨x0,hx0⟩:∃ x0,x=allX vals consts k r x0:=by
          rw[wrOne_of vals consts k r hv] at hx
          obtain⟨lo,hi,h00,hb⟩:=bnd_ex (consts ++vals)
          obtain⟨x0,_,_,e⟩:=true_comes vals consts k r lo hi hv hk h1 h2 h00 (oth_in vals consts k _ _ hb) x hx
          exact⟨x0,e.symm⟩
         obtain⟨n,hn⟩:∃ n,(numZ x k vals (sortS consts) (r - 1)).1=n:=⟨_,rfl⟩
         have hnum:numZ x k vals (sortS consts) (r - 1)= (n,0):=Prod.ext hn (by simpa using q2)
         have hsame:ofZ (vals.set k n) consts (r - 1)=x:=by
          rw[hx0] at hnum ⊢
          rw[←allX_of]
          exact pick_num hv hk r x0 n hnum
         rw[hn,Int.toNat_natCast] at h ⊢
         rw[←hsame] at h hto2 ⊢
         have:=pick_to consts tz l (vals.set k n) (r - 1) (by rw[List.length_set];exact hv) (fun b hb=>by
          obtain⟨m,e,hm⟩:=hi b (List.mem_cons_of_mem _ hb)
          exact⟨m,e,by rw[List.length_set];exact hm⟩) (by omega) (by omega) hto2 h
         rw[setsL,Int.toNat_natCast]
         simp only[List.length_cons]
         rw[show r - ((l.length+1:Nat):Int)=r - 1 - l.length by omega]
         exact this
end Go.Proofs.YtkkoooagamadjaaGreatDoor
namespace Go.Proofs.YtkkoooagamadjaaGreatDoor
open Go.RowKit Go.Shelf
set_option maxRecDepth 100000 in
set_option maxHeartbeats 4000000 in
theorem writeG_any {w:World} (ht:PTab w) {v1 v2 lv:Value} {z:Zn} {l:List Int} (r:Int) (hz:ZoneIn w v1 v2 z.1 z.2) (hcv:CapV v1∧CapV v2) (hlv:RdK w 1 lv l.length (ints l)) (hl:l.length≤100) (hok:WrG r l [z]) :
 Calls Tryz.prog 7 #[.agg #[v1,v2],lv,.int .i64 r] w fun e w'=>∃ v',e=.returned v'∧ZIs w' v' (writeG r l [z])∧Below w.heap.size w w':=by
 obtain⟨ad1,k1,e1⟩:=hz.1.len
 obtain⟨ad2,k2,e2⟩:=hz.2.len
 obtain⟨la,lc,e3⟩:=hlv.len
 obtain⟨n,hn⟩:∃ n,l.length=n:=⟨_,rfl⟩
 rw[hn] at e3 hl
 subst e1;subst e2;subst e3
 obtain⟨W1,hW1⟩:∃ W1,w.alloc (.cells #[.slice ad1 z.1.length k1,.slice ad2 z.2.length k2] 28)=W1:=⟨_,rfl⟩
 have hs1:W1.heap.size=w.heap.size+1:=by rw[←hW1];simp
 have hb1:Below w.heap.size w W1:=by rw[←hW1];exact(Below.refl _ _).alloc (Nat.le_refl _) _
 have x1:Blk W1 w.heap.size #[.slice ad1 z.1.length k1,.slice ad2 z.2.length k2] 28:=by rw[←hW1];exact Blk.new _ _ _
 obtain⟨W2,hW2⟩:∃ W2,W1.alloc (.cells #[.slice ad1 z.1.length k1,.slice ad2 z.2.length k2] 28)=W2:=⟨_,rfl⟩
 have hb12:Below W1.heap.size W1 W2:=by rw[←hW2];exact(Below.refl _ _).alloc (Nat.le_refl _) _
 have hb2:Below w.heap.size w W2:=hb1.trans (hb12.mono hb1.size)
 have c0:=x1.two.1;have c1:=x1.two.2
 have hzi:ZIs W2 (.slice (some ⟨W1.heap.size,0,none⟩) 1 1) [z]:=by
  refine⟨[(.slice ad1 z.1.length k1,.slice ad2 z.2.length k2)],rfl,⟨_,_,rfl,rfl,.inr ⟨W1.heap.size,0,rfl,by rw[←hW2];simp,fun t x hx=>?_⟩⟩,fun i p y h1 h2=>?_⟩
  · rw[←hW2,World.cell?_alloc_at _ _ _ _ (by simp)]
    simpa [zcells] using hx
  · have hi:=(List.getElem?_eq_some_iff.1 h1).1
    simp only[List.length_cons,List.length_nil] at hi
    obtain rfl:i=0:=by omega
    simp only[List.getElem?_cons_zero,Option.some.injEq] at h1 h2
    subst h1;subst h2
    exact⟨hz.below hb2,hcv⟩
 clear hcv
 have HZI:=Lib.hid hzi
 have HB2:=Lib.hid hb2
 have HLV:=Lib.hid hlv
 have HT:=Lib.hid ht;have HN:=Lib.hid hn;have HOK:=Lib.hid hok
 clear hz hlv ht hn hok hb1 x1 hb12 hb2 hzi hs1
 go_enter Tryz.func7,Tryz.ntmps7
 go_wp2_with fail
 clear hW1 hW2 c0 c1
 go_loopw [2,7,17] (fun rv ov i wr=>∃ (k:Nat) (R:Int) (zs:List Zn) (x:Option Addr) (p y:Nat),k≤n∧i=.int .i64 k∧rv=.int .i64 R∧ov=.slice x p y∧Hid (ZIs wr (.slice x p y) zs∧WrG R (l.drop k) zs∧writeG R (l.drop k) zs=writeG r l [z])∧Hid (Below w.heap.size w wr)) (fun _ _ i _=>n - (intOf i).toNat)
 case atStart=>exact⟨0,r,[z],_,1,1,Nat.zero_le _,rfl,rfl,rfl,⟨HZI.out,HOK.out,rfl⟩,HB2.out⟩
 case round=>
  clear HZI HB2
  obtain⟨k,R,zs,x,p,y,hk,rfl,rfl,rfl,HH,HB⟩:=hrel
  by_cases hlt:k < n
  · have hkn: (k:Int) < (n:Int):=by omega
    have hk0: (0:Int)≤(k:Int):=by omega
    obtain⟨a,ha⟩:∃ a,l[k]?=some a:=⟨_,List.getElem?_eq_getElem (by rw[HN.out];exact hlt)⟩
    obtain⟨bl,ol,hla,_,hlc⟩:=(HLV.out.below HB.out).at (by rw[HN.out];omega)
    subst hla
    have d0:wr.cell? ⟨bl,ol+k,none⟩ = some (.int .i64 a):=hlc k _ (by unfold ints;rw[List.getElem?_map,ha];rfl)
    have hdr:l.drop k=a :: l.drop (k+1):=by
     have h:=List.drop_eq_getElem_cons (show k < l.length by rw[HN.out];exact hlt)
     rw[h]
     congr 1
     have:=List.getElem?_eq_getElem (show k < l.length by rw[HN.out];exact hlt)
     rw[this] at ha
     exact Option.some.inj ha
    obtain⟨hzi,hwo,hwl⟩:=HH.out
    rw[hdr] at hwo hwl
    obtain⟨w1,w2,w3,w4,w5,w6⟩:=hwo
    obtain⟨R',hwrp⟩:∃ R',IntKind.i64.wrap (R - 1)=R':=⟨_,rfl⟩
    have hw6:w64 (R - 1)=R':=hwrp
    have HWL:Hid (writeG R' (l.drop (k+1)) (wrStep a R zs)=writeG r l [z]):=by rw[←hw6];exact hwl
    rw[hw6] at w6
    have HW1:=Lib.hid w1
    have HW3:=Lib.hid w3;have HW4:=Lib.hid w4;have HW5:=Lib.hid w5;have HW6:=Lib.hid w6
    have HZI:=Lib.hid hzi
    have hpl:zs.length=p:=by
     obtain⟨a',b',e⟩:=hzi.len
     simp only[Value.slice.injEq] at e
     exact e.2.1.symm
    have HPL:=Lib.hid hpl
    have hp1:p≤10000:=by omega
    clear hw6 hdr hlc ha hzi hwl w1 w3 w4 w5 w6 hpl w2 HH
    obtain⟨wo,rfl⟩:∃ w1,w1=wr:=⟨_,rfl⟩
    go_wp2_with fail
    clear d0
    go_loopw [10,23] (fun nv i wr=>∃ (j q:Nat) (x2:Option Addr) (y2:Nat),j≤p∧i=.int .i64 j∧nv=.slice x2 q y2∧q≤10000∧Hid (ZonesAt wr wo.heap.size (.slice x2 q y2) ((zs.take j).flatMap (wrOne a R))∧((zs.take j).flatMap (wrOne a R)).length=q)∧Hid (Below wo.heap.size wo wr)) (fun _ i _=>p - (intOf i).toNat)
    case atStart=>exact⟨0,0,none,0,Nat.zero_le _,rfl,rfl,Nat.zero_le _,⟨ZonesAt.nil _ _,rfl⟩,Below.refl _ _⟩
    case round=>
     obtain⟨j,q,x2,y2,hj,rfl,rfl,hq,HNX,HBI⟩:=hrel
     by_cases hjp:j < p
     · have hjn: (j:Int) < (p:Int):=by omega
       have hj0: (0:Int)≤(j:Int):=by omega
       obtain⟨zj,hzj⟩:∃ z,zs[j]?=some z:=⟨_,List.getElem?_eq_getElem (by rw[HPL.out];exact hjp)⟩
       obtain⟨⟨s1,s2⟩,-⟩:=HW3.out zj (List.mem_of_getElem? hzj)
       have w1:R≤6:=HW1.out (fun e=>by rw[e] at hzj;simp at hzj)
       obtain⟨g,off,u1,u2,hxa,-,-,f0,f1,hzz,-⟩:=(HZI.out.below HBI.out).at hzj
       subst hxa
       obtain⟨b1,m1,hu1⟩:=hzz.1.len
       obtain⟨b2,m2,hu2⟩:=hzz.2.len
       subst hu1;subst hu2
       obtain⟨W5,hW5⟩:∃ W5,wr.alloc (.cells #[.slice b1 zj.1.length m1,.slice b2 zj.2.length m2] 28)=W5:=⟨_,rfl⟩
       have hb5:Below wr.heap.size wr W5:=by rw[←hW5];exact(Below.refl _ _).alloc (Nat.le_refl _) _
       have x5:Blk W5 wr.heap.size #[.slice b1 zj.1.length m1,.slice b2 zj.2.length m2] 28:=by rw[←hW5];exact Blk.new _ _ _
       have g0:=x5.two.1;have g1:=x5.two.2
       have HB5:=Lib.hid (HBI.out.trans (hb5.mono HBI.out.size))
       have HN5:=Lib.hid (HNX.out.1.below hb5)
       have HQ:=Lib.hid HNX.out.2
       have HDR:=Lib.hid (dropI_any _ _ zj.1 zj.2 a R W5 (hzz.below hb5) (by omega) (by omega))
       obtain⟨t1,t2⟩:=dropZ_len a R zj.1 zj.2
       have HTK:=Lib.hid (take_flat (wrOne a R) zs j zj hzj)
       have hfl:=flat_le (wrOne a R) zs (j+1)
       rw[HTK.out,List.length_append,HQ.out] at hfl
       have hfl2:q+ (wrOne a R zj).length≤10000:=Nat.le_trans hfl HW4.out
       clear hzj hzz hb5 x5 HNX HBI hfl
       obtain⟨D,hD⟩:∃ D,dropZ a R zj.1 zj.2=D:=⟨_,rfl⟩
       have hone:wrOne a R zj=putL D.1 D.2 a R:=by unfold wrOne;rw[hD]
       rw[hD] at HDR t1 t2
       rw[hone] at hfl2
       rw[hone] at HTK
       have hd60:D.1.length≤60:=by omega
       clear hone hD
       go_wp2_with fail
       refine HDR.out.mono ?_
       rintro e W6 ⟨gd1,cp1,gd2,cp2,rfl,hzd,hb6⟩
       have HB6:=Lib.hid (HB5.out.trans (hb6.mono HB5.out.size))
       have HN6:=Lib.hid (HN5.out.below hb6)
       have HPU:=Lib.hid (putZ_any (a:=a) (r:=R) (ZoneIn.of_at hzd) hd60 w1)
       clear hzd hb6 g0 g1 f0 f1 HDR HB5 HN5 hW5
       go_wp2_with fail
       refine HPU.out.mono ?_
       rintro e W7 ⟨vp,rfl,hzp,hb7⟩
       obtain⟨xp,yp,hvp⟩:=hzp.len
       subst hvp
       have HB7:=Lib.hid (HB6.out.trans (hb7.mono HB6.out.size))
       have hn7:=HN6.out.below hb7
       have hsz:wo.heap.size≤W6.heap.size:=HB6.out.size
       obtain⟨x3,y3,W8,hrun,hz8,hb8⟩:=hn7.appRow hzp hsz (Nat.le_trans hsz hb7.size) (by rw[HQ.out];omega) 30
       rw[HQ.out] at hrun hz8
       obtain⟨P,hP⟩:∃ P,(putL D.1 D.2 a R).length=P:=⟨_,rfl⟩
       rw[hP] at hrun hz8 hfl2 ⊢
       have HN8:Hid (ZonesAt W8 wo.heap.size (.slice x3 (q+P) y3) ((zs.take (j+1)).flatMap (wrOne a R))∧((zs.take (j+1)).flatMap (wrOne a R)).length=q+P):=by
        refine⟨?_,?_⟩
        · rw[HTK.out];exact hz8
        · rw[HTK.out,List.length_append,HQ.out,hP]
       have HB8:=Lib.hid (HB7.out.trans (hb8.mono (Nat.le_refl _)))
       clear hz8 hb8 hn7 hzp hb7 hP HB7 HN6 HB6 HPU HTK
       go_wp2_with (first| (at_builtin;refine wpList_append_known _ rfl _ _ _ _ rfl _ _ rfl rfl _ _ hrun ?_;clear hrun)|fail)
       go_roundw
       case rel=>exact⟨j+1,q+P,x3,y3,by omega,by go_num,rfl,hfl2,HN8,HB8⟩
       case measure=>simp[intOf];omega
     · obtain rfl:j=p:=by omega
       have hn1:=HNX.out.1
       have hq1:=HNX.out.2
       rw[List.take_of_length_le (by rw[HPL.out];exact Nat.le_refl _)] at hn1 hq1
       have HBO:=Lib.hid (HB.out.trans (HBI.out.mono HB.out.size))
       have HUQ:=Lib.hid (unique_any (HT.out.keep HBO.out) hn1.zis HW5.out (by rw[hq1];exact hq))
       clear hn1 hq1 HNX HBI
       go_wp2_with fail
       refine HUQ.out.mono ?_
       rintro e W9 ⟨vu,rfl,hzu,hb9⟩
       obtain⟨xu,yu,hvu⟩:=hzu.len
       subst hvu
       obtain⟨P,hP⟩:∃ P,(uniqL (zs.flatMap (wrOne a R))).length=P:=⟨_,rfl⟩
       have HZ9:Hid (ZIs W9 (.slice xu P yu) (wrStep a R zs)):=by rw[hP] at hzu;exact hzu
       have HB9:=Lib.hid (HBO.out.trans (hb9.mono HBO.out.size))
       rw[hP]
       clear hzu hb9 hP HBO HUQ
       go_wp2_with fail
       go_roundw
       case rel=>exact⟨k+1,R',wrStep a R zs,xu,P,yu,by omega,by go_num,rfl,rfl,⟨HZ9.out,HW6.out,HWL.out⟩,HB9⟩
       case measure=>simp[intOf];omega
  · obtain rfl:k=n:=by omega
    have hF:=HH.out.1
    have he:writeG R (l.drop k) zs=zs:=by
     rw[List.drop_of_length_le (by rw[HN.out];exact Nat.le_refl _)];rfl
    rw[←he,HH.out.2.2] at hF
    have HF:=Lib.hid hF
    clear hF he HH
    go_wp2
    go_ret
    exact⟨_,rfl,HF.out,HB.out⟩
end Go.Proofs.YtkkoooagamadjaaGreatDoor
