import Derived.Test.YtkkoooagamadjaaGreatDoorPk48
namespace Go.Proofs.YtkkoooagamadjaaGreatDoor
open Go.RowKit Go.Shelf
theorem rdk_reads {w:World} {v:Value} {l:List Int} (h:Reads w v (ints l)):RdK w 1 v l.length (ints l):=by
 have hlen: (ints l).length=l.length:=ints_len l
 rcases h with⟨a,c,e,hx⟩ | ⟨b,off,c,e,hlt,_,hc⟩
 · have hl0:l= []:=List.map_eq_nil_iff.1 hx
   subst hl0
   rw[e];exact RdK.zero w 1 a c
 · rw[hlen] at e
   exact⟨_,_,e,by rw[hlen,Nat.mul_one],.inr ⟨b,off,rfl,hlt,hc⟩⟩
theorem setsL_snoc:∀ (l ns v:List Int) (a n:Int),l.length=ns.length→setsL (l ++ [a]) (ns ++ [n]) v= (setsL l ns v).set a.toNat n
 | [],[],v,a,n,_=>rfl
 | [],_ :: _,_,_,_,h=>by simp at h
 | _ :: _,[],_,_,_,h=>by simp at h
 | b :: l,m :: ns,v,a,n,h=>by
   show setsL (l ++ [a]) (ns ++ [n]) (v.set b.toNat m)= (setsL l ns (v.set b.toNat m)).set a.toNat n
   exact setsL_snoc l ns _ a n (by simpa using h)
theorem setsL_step (l A v:List Int) (k:Nat) (a n:Int) (h:l.length=A.length) (ha:l[k]?=some a) (hn:A[k]?=some n):setsL (l.take (k+1)) (A.take (k+1)) v= (setsL (l.take k) (A.take k) v).set a.toNat n:=by
 rw[List.take_add_one,List.take_add_one,ha,hn]
 exact setsL_snoc _ _ _ _ _ (by rw[List.length_take,List.length_take,h])
theorem setsL_len:∀ (l ns v:List Int),(setsL l ns v).length=v.length
 | [],_,_=>rfl
 | _ :: _,[],_=>rfl
 | a :: l,n :: ns,v=>by rw[setsL,setsL_len l ns,List.length_set]
theorem setsL_in (consts:List Int) (tz:Zn):∀ (l:List Int) (z:Zn) (vals:List Int) (r:Int),(∀ x ∈ vals ++consts,In64 x)→∀ x ∈ setsL l (pickZ tz (sortS consts) l z vals r).1 vals,In64 x
 | [],z,vals,r,h,x,hx=>h x (List.mem_append_left _ hx)
 | a :: l,z,vals,r,h,x,hx=>by
   rw[pickZ] at hx
   cases hf: (wrOne a r z).find? (fun x=>decide (tz ∈ writeG (r - 1) l [x])) with
   | none=>rw[hf] at hx;exact h x (List.mem_append_left _ hx)
   | some y=>
     rw[hf] at hx
     dsimp only at hx
     split at hx
     · exact h x (List.mem_append_left _ hx)
     · split at hx
       · exact h x (List.mem_append_left _ hx)
       · refine setsL_in consts tz l y _ (r - 1) (fun u hu=>?_) x hx
         rcases List.mem_append.1 hu with hu|hu
         · rcases List.mem_or_eq_of_mem_set hu with hu|hu
           · exact h u (List.mem_append_left _ hu)
           · rw[hu];exact numZ_in h
         · exact h u (List.mem_append_right _ hu)
theorem valsZ_err (z tz:Zn) (l vals cs:List Int) (r:Int) (h: (valsZ z tz l vals cs r).2≠0): (valsZ z tz l vals cs r).1= []:=by
 unfold valsZ at h ⊢
 split
 · rename_i h1
   rw[if_pos h1] at h
   split
   · rename_i h2;rw[if_pos h2] at h;exact absurd rfl h
   · rfl
 · rfl
theorem valsZ_ok (z tz:Zn) (l vals cs:List Int) (r:Int) (h: (valsZ z tz l vals cs r).2=0):tz ∈ writeG r l [z]∧(pickZ tz cs l z vals r).2=0∧(valsZ z tz l vals cs r).1= (pickZ tz cs l z vals r).1:=by
 unfold valsZ at h ⊢
 split
 · rename_i h1
   rw[if_pos h1] at h
   split
   · rename_i h2;exact⟨h1,h2,rfl⟩
   · rename_i h2;rw[if_neg h2] at h;exact absurd h h2
 · rename_i h1;rw[if_neg h1] at h;simp at h
theorem wrapN (r:Int) (n:Nat) (h0:-9223372036854775808≤r) (h1:r≤3) (hn:n≤2) (h:n≠0→1≤r):IntKind.i64.wrap (r - (n:Int))=r - (n:Int):=by
 by_cases q:n=0
 · subst q;exact IntWalk.i64_in _ ⟨by omega,by omega⟩
 · have:=h q;exact IntWalk.i64_in _ ⟨by omega,by omega⟩
set_option maxRecDepth 100000 in
set_option maxHeartbeats 8000000 in
theorem pickVals_any {w:World} (ht:PTab w) {a r:Int} {vv cv lv t1 t2:Value} {vals consts l:List Int} {tz:Zn} (h0:Reads w vv (ints vals)) (h1:Reads w cv (ints consts)) (hlv:RdK w 1 lv l.length (ints l)) (hcl:CapV lv) (hto:ZoneIn w t1 t2 tz.1 tz.2) (hI:∀ x ∈ vals ++consts,In64 x) (hr0:-9223372036854775808≤r) :
 Calls Tryz.prog 4 #[.agg #[.int .i64 a,vv,cv],lv,.agg #[t1,t2,.int .i64 r]] w fun e w'=>e=.returned (.bool true)∧Below w.heap.size w w':=by
 obtain⟨va,vc,e0,-⟩:=h0.len
 obtain⟨ca,cc,e1,-⟩:=h1.len
 rw[ints_len] at e0 e1
 obtain⟨la,lc,e2⟩:=hlv.len
 obtain⟨a3,k3,e3⟩:=hto.1.len
 obtain⟨a4,k4,e4⟩:=hto.2.len
 obtain⟨W1,hW1⟩:∃ W1,w.alloc (.cells #[.int .i64 a,vv,cv] 36)=W1:=⟨_,rfl⟩
 obtain⟨W2,hW2⟩:∃ W2,W1.alloc (.cells #[t1,t2,.int .i64 r] 38)=W2:=⟨_,rfl⟩
 have hs1:W1.heap.size=w.heap.size+1:=by rw[←hW1];simp
 have hb12:Below W1.heap.size W1 W2:=by rw[←hW2];exact(Below.refl _ _).alloc (Nat.le_refl _) _
 have hb2:Below w.heap.size w W2:=by
  have h1:Below w.heap.size w W1:=by rw[←hW1];exact(Below.refl _ _).alloc (Nat.le_refl _) _
  exact h1.trans (hb12.mono (by omega))
 have xa:Blk W2 w.heap.size #[.int .i64 a,vv,cv] 36:=by
  have h1:Blk W1 w.heap.size #[.int .i64 a,vv,cv] 36:=by rw[←hW1];exact Blk.new _ _ _
  exact h1.keep hb12
 have xt:Blk W2 W1.heap.size #[t1,t2,.int .i64 r] 38:=by rw[←hW2];exact Blk.new _ _ _
 obtain⟨n0,hn0⟩:∃ n,vals.length=n:=⟨_,rfl⟩
 obtain⟨n1,hn1⟩:∃ n,consts.length=n:=⟨_,rfl⟩
 obtain⟨n,hn⟩:∃ n,l.length=n:=⟨_,rfl⟩
 obtain⟨m3,hm3⟩:∃ n,tz.1.length=n:=⟨_,rfl⟩
 obtain⟨m4,hm4⟩:∃ n,tz.2.length=n:=⟨_,rfl⟩
 rw[hn0] at e0;rw[hn1] at e1;rw[hn] at e2;rw[hm3] at e3;rw[hm4] at e4
 subst e0;subst e1;subst e2;subst e3;subst e4
 have HGR:=Lib.hid (great_any (hto.below hb2))
 obtain⟨gr,hgr⟩:∃ g,(decide (40 < tz.1.length) || decide (40 < tz.2.length))=g:=⟨_,rfl⟩
 rw[hgr] at HGR
 have HG:=Lib.hid hgr
 have HN0:=Lib.hid hn0;have HN1:=Lib.hid hn1;have HN:=Lib.hid hn;have HM3:=Lib.hid hm3;have HM4:=Lib.hid hm4
 have HB:=Lib.hid hb2;have XA:=Lib.hid xa;have XT:=Lib.hid xt;have HS1:=Lib.hid hs1
 have H0:=Lib.hid h0;have H1:=Lib.hid h1;have HLV:=Lib.hid hlv;have HCL:=Lib.hid hcl;have HTO:=Lib.hid hto;have HI:=Lib.hid hI;have HT:=Lib.hid ht
 have c1:W2.cell? ⟨w.heap.size,1,none⟩ = some (.slice va n0 vc):=xa.cell rfl
 have c2:W2.cell? ⟨w.heap.size,2,none⟩ = some (.slice ca n1 cc):=xa.cell rfl
 have c3:W2.cell? ⟨W1.heap.size,0,none⟩ = some (.slice a3 m3 k3):=xt.cell rfl
 have c4:W2.cell? ⟨W1.heap.size,1,none⟩ = some (.slice a4 m4 k4):=xt.cell rfl
 have c5:W2.cell? ⟨W1.heap.size,2,none⟩ = some (.int .i64 r):=xt.cell rfl
 clear h0 h1 hlv hcl hto hI ht hs1 hb12 hb2 xa xt hn0 hn1 hn hm3 hm4 hgr
 by_cases q0:4 < n0
 · go_enter Tryz.func4,Tryz.ntmps4
   go_wp2_with fail
   refine(awake36 _).mono ?_
   rintro e w3 ⟨rfl,hb3⟩
   have HF:=Lib.hid (HB.out.trans (hb3.mono HB.out.size))
   clear hb3
   go_wp2_with fail
   go_ret
   exact⟨rfl,HF.out⟩
 replace q0:n0≤4:=by omega
 by_cases q1:4 < n1
 · go_enter Tryz.func4,Tryz.ntmps4
   go_wp2_with fail
   refine(awake36 _).mono ?_
   rintro e w3 ⟨rfl,hb3⟩
   have HF:=Lib.hid (HB.out.trans (hb3.mono HB.out.size))
   clear hb3
   go_wp2_with fail
   go_ret
   exact⟨rfl,HF.out⟩
 replace q1:n1≤4:=by omega
 by_cases q2:2 < n
 · go_enter Tryz.func4,Tryz.ntmps4
   go_wp2_with fail
   refine(awake36 _).mono ?_
   rintro e w3 ⟨rfl,hb3⟩
   have HF:=Lib.hid (HB.out.trans (hb3.mono HB.out.size))
   clear hb3
   go_wp2_with fail
   go_ret
   exact⟨rfl,HF.out⟩
 replace q2:n≤2:=by omega
 by_cases q3:3 < r
 · go_enter Tryz.func4,Tryz.ntmps4
   go_wp2_with fail
   refine(awake36 _).mono ?_
   rintro e w3 ⟨rfl,hb3⟩
   have HF:=Lib.hid (HB.out.trans (hb3.mono HB.out.size))
   clear hb3
   go_wp2_with fail
   go_ret
   exact⟨rfl,HF.out⟩
 replace q3:r≤3:=by omega
 cases gr
 rotate_left
 · go_enter Tryz.func4,Tryz.ntmps4
   go_wp2_with fail
   refine HGR.out.mono ?_
   rintro e w3 ⟨rfl,hb3⟩
   have HF:=Lib.hid (HB.out.trans (hb3.mono HB.out.size))
   clear hb3
   go_wp2_with fail
   refine(awake36 _).mono ?_
   rintro e w4 ⟨rfl,hb4⟩
   have HF2:=Lib.hid (HF.out.trans (hb4.mono HF.out.size))
   clear hb4
   go_wp2_with fail
   go_ret
   exact⟨rfl,HF2.out⟩
 have hst:SmallZ tz:=by
  have:=HG.out
  rw[Bool.or_eq_false_iff,decide_eq_false_iff_not,decide_eq_false_iff_not] at this
  exact⟨by omega,by omega⟩
 have HST:=Lib.hid hst
 clear hst
 go_enter Tryz.func4,Tryz.ntmps4
 go_wp2_with fail
 refine HGR.out.mono ?_
 rintro e w3 ⟨rfl,hb3⟩
 have HB3:=Lib.hid hb3
 have HF:=Lib.hid (HB.out.trans (hb3.mono HB.out.size))
 clear hb3 c1 c2 c3 c4 c5 hW1 hW2 HGR
 go_wp2_with fail
 go_loopw [8] (fun i wr=>∃ k:Nat,k≤n∧i=.int .i64 k∧Hid (Below w3.heap.size w3 wr)∧Hid (∀ j x,j < k→l[j]?=some x→0≤x∧x < (n0:Int))) (fun i _=>n - (intOf i).toNat)
 case atStart=>exact⟨0,Nat.zero_le _,rfl,Below.refl _ _,fun j x h=>by omega⟩
 case round=>
  obtain⟨k,hk,rfl,HBR,HOK⟩:=hrel
  have hb2r:Below W2.heap.size W2 wr:=HB3.out.trans (HBR.out.mono HB3.out.size)
  have HB2R:=Lib.hid hb2r
  have HLOW:=Lib.hid (HB.out.trans (hb2r.mono HB.out.size))
  have c1:wr.cell? ⟨w.heap.size,1,none⟩ = some (.slice va n0 vc):=(XA.out.keep hb2r).cell rfl
  clear hb2r
  by_cases hlt:k < n
  · have hkn: (k:Int) < (n:Int):=by omega
    have hk0: (0:Int)≤(k:Int):=by omega
    obtain⟨x,hx⟩:∃ x,l[k]?=some x:=⟨_,List.getElem?_eq_getElem (by rw[HN.out];exact hlt)⟩
    obtain⟨b,o,rfl,hbl,hcell⟩:=(HLV.out.below HLOW.out).at (by rw[HN.out];omega)
    have d0:wr.cell? ⟨b,o+k,none⟩ = some (.int .i64 x):=hcell k _ (by unfold ints;rw[List.getElem?_map,hx];rfl)
    by_cases p0:x < 0
    · clear hcell hx
      go_wp2
      go_quiet (fail)
      go_wp2_with fail
      refine(awake36 _).mono ?_
      rintro e w4 ⟨rfl,hb4⟩
      have hbd:=below_drewN HLOW.out nq
      have HF2:=Lib.hid (hbd.trans (hb4.mono hbd.size))
      clear hb4 hbd
      go_wp2_with fail
      go_ret
      exact⟨rfl,HF2.out⟩
    have p0':0≤x:=by omega
    by_cases p1: (n0:Int)≤x
    · clear hcell hx
      go_upto_region 7 with fail
      refine wp_region_held_drew (S:=(fun w'=>w'.cell? ⟨w.heap.size,1,none⟩ = some (.slice va n0 vc)∧w'.cell? ⟨b,o+k,none⟩ = some (.int .i64 x))) (by kernel_rfl) ?_ (fun hHeld=>?_)
      · exact⟨by simpa using c1,by simpa using d0⟩
      refine wpAnyH_take (i:=0) (v:=?vp10) rfl (by kernel_rfl) (by kernel_rfl) (by kernel_rfl) (fun _ _ _ h=>h) (Or.inl ⟨by rfl,?yp10⟩) (by assumption) ?rp10
      case yp10=>((intro w hSw;(try dsimp only at hSw);go_simp) <;> (try with_reducible rfl))
      (try go_simp)
      refine wpAnyH_take (i:=1) (v:=?vp11) rfl (by kernel_rfl) (by kernel_rfl) (by kernel_rfl) (fun _ _ _ h=>h) (Or.inl ⟨by rfl,?yp11⟩) (by assumption) ?rp11
      case yp11=>((intro w hSw;(try dsimp only at hSw);go_simp) <;> (try with_reducible rfl))
      (try go_simp)
      refine wpAnyH_take (i:=2) (v:=?vp12) rfl (by kernel_rfl) (by kernel_rfl) (by kernel_rfl) (fun _ _ _ h=>h) (Or.inl ⟨by rfl,?yp12⟩) (by assumption) ?rp12
      case yp12=>((intro w hSw;(try dsimp only at hSw);go_simp) <;> (try with_reducible rfl))
      (try go_simp)
      refine wpAnyH_take (i:=3) (v:=?vp13) rfl (by kernel_rfl) (by kernel_rfl) (by kernel_rfl) (fun _ _ _ h=>h) (Or.inl ⟨by rfl,?yp13⟩) (by assumption) ?rp13
      case yp13=>((intro w hSw;(try dsimp only at hSw);go_simp) <;> (try with_reducible rfl))
      (try go_simp)
      refine wpAnyH_take (i:=4) (v:=.bool false) rfl (by kernel_rfl) (by kernel_rfl) (by kernel_rfl) (fun _ _ _ h=>h) (Or.inl ⟨by rfl,?yp14⟩) (by assumption) ?rp14
      case yp14=>((intro w hSw;(try dsimp only at hSw);go_simp) <;> (try with_reducible rfl))
      (try go_simp)
      refine wpAnyH_take (i:=5) (v:=?vp15) rfl (by kernel_rfl) (by kernel_rfl) (by kernel_rfl) (fun _ _ _ h=>h) (Or.inl ⟨by rfl,?yp15⟩) (by assumption) ?rp15
      case yp15=>((intro w hSw;(try dsimp only at hSw);go_simp) <;> (try with_reducible rfl))
      (try go_simp)
      refine wpAnyH_take (i:=6) (v:=?vp16) rfl (by kernel_rfl) (by kernel_rfl) (by kernel_rfl) (fun _ _ _ h=>h) (Or.inl ⟨by rfl,?yp16⟩) (by assumption) ?rp16
      case yp16=>((intro w hSw;(try dsimp only at hSw);go_simp) <;> (try with_reducible rfl))
      (try go_simp)
      refine wpAnyH_take (i:=7) (v:=?vp17) rfl (by kernel_rfl) (by kernel_rfl) (by kernel_rfl) (fun _ _ _ h=>h) (Or.inl ⟨by rfl,?yp17⟩) (by assumption) ?rp17
      case yp17=>((intro w hSw;(try dsimp only at hSw);go_simp) <;> (try with_reducible rfl))
      (try go_simp)
      refine wpAnyH_take (i:=8) (v:=?vp18) rfl (by kernel_rfl) (by kernel_rfl) (by kernel_rfl) (fun _ _ _ h=>h) (Or.inl ⟨by rfl,?yp18⟩) (by assumption) ?rp18
      case yp18=>((intro w hSw;(try dsimp only at hSw);go_simp) <;> (try with_reducible rfl))
      (try go_simp)
      refine wpAnyH_take (i:=9) (v:=?vp19) rfl (by kernel_rfl) (by kernel_rfl) (by kernel_rfl) (fun _ _ _ h=>h) (Or.inl ⟨by rfl,?yp19⟩) (by assumption) ?rp19
      case yp19=>((intro w hSw;(try dsimp only at hSw);go_simp) <;> (try with_reducible rfl))
      (try go_simp)
      refine wpAnyH_take (i:=10) (v:=?vp110) rfl (by kernel_rfl) (by kernel_rfl) (by kernel_rfl) (fun _ _ _ h=>h) (Or.inl ⟨by rfl,?yp110⟩) (by assumption) ?rp110
      case yp110=>((intro w hSw;(try dsimp only at hSw);go_simp) <;> (try with_reducible rfl))
      (try go_simp)
      refine wpAnyH_take (i:=11) (v:=?vp111) rfl (by kernel_rfl) (by kernel_rfl) (by kernel_rfl) (fun _ _ _ h=>h) (Or.inl ⟨by rfl,?yp111⟩) (by assumption) ?rp111
      case yp111=>((intro w hSw;(try dsimp only at hSw);go_simp) <;> (try with_reducible rfl))
      (try go_simp)
      refine wpAnyH_take (i:=12) (v:=?vp112) rfl (by kernel_rfl) (by kernel_rfl) (by kernel_rfl) (fun _ _ _ h=>h) (Or.inl ⟨by rfl,?yp112⟩) (by assumption) ?rp112
      case yp112=>((intro w hSw;(try dsimp only at hSw);go_simp) <;> (try with_reducible rfl))
      (try go_simp)
      refine wpAnyH_take (i:=13) (v:=.bool true) rfl (by kernel_rfl) (by kernel_rfl) (by kernel_rfl) (fun _ _ _ h=>h) (Or.inl ⟨by rfl,?yp113⟩) (by assumption) ?rp113
      case yp113=>((intro w hSw;(try dsimp only at hSw);go_simp) <;> (try with_reducible rfl))
      (try go_simp)
      refine wpAnyH_take (i:=14) (v:=.bool true) rfl (by kernel_rfl) (by kernel_rfl) (by kernel_rfl) (fun _ _ _ h=>h) (Or.inl ⟨by rfl,?yp114⟩) (by assumption) ?rp114
      case yp114=>((intro w hSw;(try dsimp only at hSw);go_simp) <;> (try with_reducible rfl))
      (try go_simp)
      refine wpAnyH_take (i:=15) (v:=?vp115) rfl (by kernel_rfl) (by kernel_rfl) (by kernel_rfl) (fun _ _ _ h=>h) (Or.inl ⟨by rfl,?yp115⟩) (by assumption) ?rp115
      case yp115=>((intro w hSw;(try dsimp only at hSw);go_simp) <;> (try with_reducible rfl))
      (try go_simp)
      refine wpAnyH_take (i:=16) (v:=undef) rfl (by kernel_rfl) (by kernel_rfl) (by kernel_rfl) (fun _ _ _ h=>h) (Or.inr ⟨by rfl,rfl⟩) (by assumption) ?_
      (try go_simp)
      refine wpAnyH_take (i:=17) (v:=undef) rfl (by kernel_rfl) (by kernel_rfl) (by kernel_rfl) (fun _ _ _ h=>h) (Or.inr ⟨by rfl,rfl⟩) (by assumption) ?_
      (try go_simp)
      refine wpAnyH_take (i:=18) (v:=undef) rfl (by kernel_rfl) (by kernel_rfl) (by kernel_rfl) (fun _ _ _ h=>h) (Or.inr ⟨by rfl,rfl⟩) (by assumption) ?_
      (try go_simp)
      refine wpAnyH_take (i:=19) (v:=undef) rfl (by kernel_rfl) (by kernel_rfl) (by kernel_rfl) (fun _ _ _ h=>h) (Or.inr ⟨by rfl,rfl⟩) (by assumption) ?_
      (try go_simp)
      refine wpAnyH_take (i:=20) (v:=undef) rfl (by kernel_rfl) (by kernel_rfl) (by kernel_rfl) (fun _ _ _ h=>h) (Or.inr ⟨by rfl,rfl⟩) (by assumption) ?_
      (try go_simp)
      refine wpAnyH_take (i:=21) (v:=undef) rfl (by kernel_rfl) (by kernel_rfl) (by kernel_rfl) (fun _ _ _ h=>h) (Or.inr ⟨by rfl,rfl⟩) (by assumption) ?_
      (try go_simp)
      refine wpAnyH_take (i:=22) (v:=undef) rfl (by kernel_rfl) (by kernel_rfl) (by kernel_rfl) (fun _ _ _ h=>h) (Or.inr ⟨by rfl,rfl⟩) (by assumption) ?_
      (try go_simp)
      refine wpAnyH_take (i:=23) (v:=undef) rfl (by kernel_rfl) (by kernel_rfl) (by kernel_rfl) (fun _ _ _ h=>h) (Or.inr ⟨by rfl,rfl⟩) (by assumption) ?_
      (try go_simp)
      refine wpAnyH_take (i:=24) (v:=undef) rfl (by kernel_rfl) (by kernel_rfl) (by kernel_rfl) (fun _ _ _ h=>h) (Or.inr ⟨by rfl,rfl⟩) (by assumption) ?_
      (try go_simp)
      refine wpAnyH_take (i:=25) (v:=undef) rfl (by kernel_rfl) (by kernel_rfl) (by kernel_rfl) (fun _ _ _ h=>h) (Or.inr ⟨by rfl,rfl⟩) (by assumption) ?_
      (try go_simp)
      refine wpAnyH_take (i:=26) (v:=undef) rfl (by kernel_rfl) (by kernel_rfl) (by kernel_rfl) (fun _ _ _ h=>h) (Or.inr ⟨by rfl,rfl⟩) (by assumption) ?_
      (try go_simp)
      refine wpAnyH_take (i:=27) (v:=undef) rfl (by kernel_rfl) (by kernel_rfl) (by kernel_rfl) (fun _ _ _ h=>h) (Or.inr ⟨by rfl,rfl⟩) (by assumption) ?_
      (try go_simp)
      refine wpAnyH_take (i:=28) (v:=.bool true) rfl (by kernel_rfl) (by kernel_rfl) (by kernel_rfl) (fun _ _ _ h=>h) (Or.inl ⟨by rfl,?yp128⟩) (by assumption) ?rp128
      case yp128=>((intro w hSw;(try dsimp only at hSw);go_simp) <;> (try with_reducible rfl))
      (try go_simp)
      refine wpAnyH_done (by kernel_rfl) ?_ _
      go_wp2_with fail
      refine(awake36 _).mono ?_
      rintro e w4 ⟨rfl,hb4⟩
      have hbd:=HLOW.out.drew
      have HF2:=Lib.hid (hbd.trans (hb4.mono hbd.size))
      clear hb4 hbd
      go_wp2_with fail
      go_ret
      exact⟨rfl,HF2.out⟩
    have p1':x < (n0:Int):=by omega
    have HOK2:Hid (∀ j y,j < k+1→l[j]?=some y→0≤y∧y < (n0:Int)):=by
     intro j y hj hy
     by_cases hjk:j < k
     · exact HOK.out j y hjk hy
     · obtain rfl:j=k:=by omega
       rw[hx] at hy
       cases hy
       exact⟨p0',p1'⟩
    by_cases p2:k=0
    · subst p2
      clear hcell hx
      have d0z:wr.cell? ⟨b,o,none⟩ = some (.int .i64 x):=by simpa using d0
      go_upto_region 7 with fail
      refine wp_region_held_drew (S:=(fun w'=>w'.cell? ⟨w.heap.size,1,none⟩ = some (.slice va n0 vc)∧w'.cell? ⟨b,o,none⟩ = some (.int .i64 x))) (by kernel_rfl) ?_ (fun hHeld=>?_)
      · exact⟨by simpa using c1,by simpa using d0z⟩
      refine wpAnyH_take (i:=0) (v:=?vk00) rfl (by kernel_rfl) (by kernel_rfl) (by kernel_rfl) (fun _ _ _ h=>h) (Or.inl ⟨by rfl,?yk00⟩) (by assumption) ?rk00
      case yk00=>((intro w hSw;(try dsimp only at hSw);go_simp) <;> (try with_reducible rfl))
      (try go_simp)
      refine wpAnyH_take (i:=1) (v:=?vk01) rfl (by kernel_rfl) (by kernel_rfl) (by kernel_rfl) (fun _ _ _ h=>h) (Or.inl ⟨by rfl,?yk01⟩) (by assumption) ?rk01
      case yk01=>((intro w hSw;(try dsimp only at hSw);go_simp) <;> (try with_reducible rfl))
      (try go_simp)
      refine wpAnyH_take (i:=2) (v:=?vk02) rfl (by kernel_rfl) (by kernel_rfl) (by kernel_rfl) (fun _ _ _ h=>h) (Or.inl ⟨by rfl,?yk02⟩) (by assumption) ?rk02
      case yk02=>((intro w hSw;(try dsimp only at hSw);go_simp) <;> (try with_reducible rfl))
      (try go_simp)
      refine wpAnyH_take (i:=3) (v:=?vk03) rfl (by kernel_rfl) (by kernel_rfl) (by kernel_rfl) (fun _ _ _ h=>h) (Or.inl ⟨by rfl,?yk03⟩) (by assumption) ?rk03
      case yk03=>((intro w hSw;(try dsimp only at hSw);go_simp) <;> (try with_reducible rfl))
      (try go_simp)
      refine wpAnyH_take (i:=4) (v:=.bool false) rfl (by kernel_rfl) (by kernel_rfl) (by kernel_rfl) (fun _ _ _ h=>h) (Or.inl ⟨by rfl,?yk04⟩) (by assumption) ?rk04
      case yk04=>((intro w hSw;(try dsimp only at hSw);go_simp) <;> (try with_reducible rfl))
      (try go_simp)
      refine wpAnyH_take (i:=5) (v:=?vk05) rfl (by kernel_rfl) (by kernel_rfl) (by kernel_rfl) (fun _ _ _ h=>h) (Or.inl ⟨by rfl,?yk05⟩) (by assumption) ?rk05
      case yk05=>((intro w hSw;(try dsimp only at hSw);go_simp) <;> (try with_reducible rfl))
      (try go_simp)
      refine wpAnyH_take (i:=6) (v:=?vk06) rfl (by kernel_rfl) (by kernel_rfl) (by kernel_rfl) (fun _ _ _ h=>h) (Or.inl ⟨by rfl,?yk06⟩) (by assumption) ?rk06
      case yk06=>((intro w hSw;(try dsimp only at hSw);go_simp) <;> (try with_reducible rfl))
      (try go_simp)
      refine wpAnyH_take (i:=7) (v:=?vk07) rfl (by kernel_rfl) (by kernel_rfl) (by kernel_rfl) (fun _ _ _ h=>h) (Or.inl ⟨by rfl,?yk07⟩) (by assumption) ?rk07
      case yk07=>((intro w hSw;(try dsimp only at hSw);go_simp) <;> (try with_reducible rfl))
      (try go_simp)
      refine wpAnyH_take (i:=8) (v:=?vk08) rfl (by kernel_rfl) (by kernel_rfl) (by kernel_rfl) (fun _ _ _ h=>h) (Or.inl ⟨by rfl,?yk08⟩) (by assumption) ?rk08
      case yk08=>((intro w hSw;(try dsimp only at hSw);go_simp) <;> (try with_reducible rfl))
      (try go_simp)
      refine wpAnyH_take (i:=9) (v:=?vk09) rfl (by kernel_rfl) (by kernel_rfl) (by kernel_rfl) (fun _ _ _ h=>h) (Or.inl ⟨by rfl,?yk09⟩) (by assumption) ?rk09
      case yk09=>((intro w hSw;(try dsimp only at hSw);go_simp) <;> (try with_reducible rfl))
      (try go_simp)
      refine wpAnyH_take (i:=10) (v:=?vk010) rfl (by kernel_rfl) (by kernel_rfl) (by kernel_rfl) (fun _ _ _ h=>h) (Or.inl ⟨by rfl,?yk010⟩) (by assumption) ?rk010
      case yk010=>((intro w hSw;(try dsimp only at hSw);go_simp) <;> (try with_reducible rfl))
      (try go_simp)
      refine wpAnyH_take (i:=11) (v:=?vk011) rfl (by kernel_rfl) (by kernel_rfl) (by kernel_rfl) (fun _ _ _ h=>h) (Or.inl ⟨by rfl,?yk011⟩) (by assumption) ?rk011
      case yk011=>((intro w hSw;(try dsimp only at hSw);go_simp) <;> (try with_reducible rfl))
      (try go_simp)
      refine wpAnyH_take (i:=12) (v:=?vk012) rfl (by kernel_rfl) (by kernel_rfl) (by kernel_rfl) (fun _ _ _ h=>h) (Or.inl ⟨by rfl,?yk012⟩) (by assumption) ?rk012
      case yk012=>((intro w hSw;(try dsimp only at hSw);go_simp) <;> (try with_reducible rfl))
      (try go_simp)
      refine wpAnyH_take (i:=13) (v:=.bool false) rfl (by kernel_rfl) (by kernel_rfl) (by kernel_rfl) (fun _ _ _ h=>h) (Or.inl ⟨by rfl,?yk013⟩) (by assumption) ?rk013
      case yk013=>((intro w hSw;(try dsimp only at hSw);go_simp) <;> (try with_reducible rfl))
      (try go_simp)
      refine wpAnyH_take (i:=14) (v:=.bool false) rfl (by kernel_rfl) (by kernel_rfl) (by kernel_rfl) (fun _ _ _ h=>h) (Or.inl ⟨by rfl,?yk014⟩) (by assumption) ?rk014
      case yk014=>((intro w hSw;(try dsimp only at hSw);go_simp) <;> (try with_reducible rfl))
      (try go_simp)
      refine wpAnyH_take (i:=15) (v:=?vk015) rfl (by kernel_rfl) (by kernel_rfl) (by kernel_rfl) (fun _ _ _ h=>h) (Or.inl ⟨by rfl,?yk015⟩) (by assumption) ?rk015
      case yk015=>((intro w hSw;(try dsimp only at hSw);go_simp) <;> (try with_reducible rfl))
      (try go_simp)
      refine wpAnyH_take (i:=16) (v:=?vk016) rfl (by kernel_rfl) (by kernel_rfl) (by kernel_rfl) (fun _ _ _ h=>h) (Or.inl ⟨by rfl,?yk016⟩) (by assumption) ?rk016
      case yk016=>((intro w hSw;(try dsimp only at hSw);go_simp) <;> (try with_reducible rfl))
      (try go_simp)
      refine wpAnyH_take (i:=17) (v:=.bool false) rfl (by kernel_rfl) (by kernel_rfl) (by kernel_rfl) (fun _ _ _ h=>h) (Or.inl ⟨by rfl,?yk017⟩) (by assumption) ?rk017
      case yk017=>((intro w hSw;(try dsimp only at hSw);go_simp) <;> (try with_reducible rfl))
      (try go_simp)
      refine wpAnyH_take (i:=18) (v:=?vk018) rfl (by kernel_rfl) (by kernel_rfl) (by kernel_rfl) (fun _ _ _ h=>h) (Or.inl ⟨by rfl,?yk018⟩) (by assumption) ?rk018
      case yk018=>((intro w hSw;(try dsimp only at hSw);go_simp) <;> (try with_reducible rfl))
      (try go_simp)
      refine wpAnyH_take (i:=19) (v:=undef) rfl (by kernel_rfl) (by kernel_rfl) (by kernel_rfl) (fun _ _ _ h=>h) (Or.inr ⟨by rfl,rfl⟩) (by assumption) ?_
      (try go_simp)
      refine wpAnyH_take (i:=20) (v:=undef) rfl (by kernel_rfl) (by kernel_rfl) (by kernel_rfl) (fun _ _ _ h=>h) (Or.inr ⟨by rfl,rfl⟩) (by assumption) ?_
      (try go_simp)
      refine wpAnyH_take (i:=21) (v:=undef) rfl (by kernel_rfl) (by kernel_rfl) (by kernel_rfl) (fun _ _ _ h=>h) (Or.inr ⟨by rfl,rfl⟩) (by assumption) ?_
      (try go_simp)
      refine wpAnyH_take (i:=22) (v:=undef) rfl (by kernel_rfl) (by kernel_rfl) (by kernel_rfl) (fun _ _ _ h=>h) (Or.inr ⟨by rfl,rfl⟩) (by assumption) ?_
      (try go_simp)
      refine wpAnyH_take (i:=23) (v:=undef) rfl (by kernel_rfl) (by kernel_rfl) (by kernel_rfl) (fun _ _ _ h=>h) (Or.inr ⟨by rfl,rfl⟩) (by assumption) ?_
      (try go_simp)
      refine wpAnyH_take (i:=24) (v:=undef) rfl (by kernel_rfl) (by kernel_rfl) (by kernel_rfl) (fun _ _ _ h=>h) (Or.inr ⟨by rfl,rfl⟩) (by assumption) ?_
      (try go_simp)
      refine wpAnyH_take (i:=25) (v:=undef) rfl (by kernel_rfl) (by kernel_rfl) (by kernel_rfl) (fun _ _ _ h=>h) (Or.inr ⟨by rfl,rfl⟩) (by assumption) ?_
      (try go_simp)
      refine wpAnyH_take (i:=26) (v:=undef) rfl (by kernel_rfl) (by kernel_rfl) (by kernel_rfl) (fun _ _ _ h=>h) (Or.inr ⟨by rfl,rfl⟩) (by assumption) ?_
      (try go_simp)
      refine wpAnyH_take (i:=27) (v:=.bool false) rfl (by kernel_rfl) (by kernel_rfl) (by kernel_rfl) (fun _ _ _ h=>h) (Or.inl ⟨by rfl,?yk027⟩) (by assumption) ?rk027
      case yk027=>((intro w hSw;(try dsimp only at hSw);go_simp) <;> (try with_reducible rfl))
      (try go_simp)
      refine wpAnyH_take (i:=28) (v:=.bool false) rfl (by kernel_rfl) (by kernel_rfl) (by kernel_rfl) (fun _ _ _ h=>h) (Or.inl ⟨by rfl,?yk028⟩) (by assumption) ?rk028
      case yk028=>((intro w hSw;(try dsimp only at hSw);go_simp) <;> (try with_reducible rfl))
      (try go_simp)
      refine wpAnyH_done (by kernel_rfl) ?_ _
      go_wp2_with fail
      go_roundw
      case rel=>exact⟨1,by omega,rfl,Lib.hid HBR.out.drew,HOK2⟩
      case measure=>simp[intOf];omega
    obtain rfl:k=1:=by omega
    obtain⟨y,hy⟩:∃ y,l[0]?=some y:=⟨_,List.getElem?_eq_getElem (by rw[HN.out];omega)⟩
    have d1:wr.cell? ⟨b,o,none⟩ = some (.int .i64 y):=hcell 0 _ (by unfold ints;rw[List.getElem?_map,hy];rfl)
    have hnp:0 < n:=by omega
    have hnp1: (0:Int) < (n:Int):=by omega
    by_cases p3:y=x
    · have p3b: (y == x)=true:=by simp[p3]
      clear p3
      clear hcell hx hy
      go_upto_region 7 with fail
      refine wp_region_held_drew (S:=(fun w'=>w'.cell? ⟨w.heap.size,1,none⟩ = some (.slice va n0 vc)∧w'.cell? ⟨b,o+1,none⟩ = some (.int .i64 x)∧w'.cell? ⟨b,o,none⟩ = some (.int .i64 y))) (by kernel_rfl) ?_ (fun hHeld=>?_)
      · exact⟨by simpa using c1,by simpa using d0,by simpa using d1⟩
      refine wpAnyH_take (i:=0) (v:=?veq0) rfl (by kernel_rfl) (by kernel_rfl) (by kernel_rfl) (fun _ _ _ h=>h) (Or.inl ⟨by rfl,?yeq0⟩) (by assumption) ?req0
      case yeq0=>((intro w hSw;(try dsimp only at hSw);go_simp) <;> (try with_reducible rfl))
      (try go_simp)
      refine wpAnyH_take (i:=1) (v:=?veq1) rfl (by kernel_rfl) (by kernel_rfl) (by kernel_rfl) (fun _ _ _ h=>h) (Or.inl ⟨by rfl,?yeq1⟩) (by assumption) ?req1
      case yeq1=>((intro w hSw;(try dsimp only at hSw);go_simp) <;> (try with_reducible rfl))
      (try go_simp)
      refine wpAnyH_take (i:=2) (v:=?veq2) rfl (by kernel_rfl) (by kernel_rfl) (by kernel_rfl) (fun _ _ _ h=>h) (Or.inl ⟨by rfl,?yeq2⟩) (by assumption) ?req2
      case yeq2=>((intro w hSw;(try dsimp only at hSw);go_simp) <;> (try with_reducible rfl))
      (try go_simp)
      refine wpAnyH_take (i:=3) (v:=?veq3) rfl (by kernel_rfl) (by kernel_rfl) (by kernel_rfl) (fun _ _ _ h=>h) (Or.inl ⟨by rfl,?yeq3⟩) (by assumption) ?req3
      case yeq3=>((intro w hSw;(try dsimp only at hSw);go_simp) <;> (try with_reducible rfl))
      (try go_simp)
      refine wpAnyH_take (i:=4) (v:=.bool false) rfl (by kernel_rfl) (by kernel_rfl) (by kernel_rfl) (fun _ _ _ h=>h) (Or.inl ⟨by rfl,?yeq4⟩) (by assumption) ?req4
      case yeq4=>((intro w hSw;(try dsimp only at hSw);go_simp) <;> (try with_reducible rfl))
      (try go_simp)
      refine wpAnyH_take (i:=5) (v:=?veq5) rfl (by kernel_rfl) (by kernel_rfl) (by kernel_rfl) (fun _ _ _ h=>h) (Or.inl ⟨by rfl,?yeq5⟩) (by assumption) ?req5
      case yeq5=>((intro w hSw;(try dsimp only at hSw);go_simp) <;> (try with_reducible rfl))
      (try go_simp)
      refine wpAnyH_take (i:=6) (v:=?veq6) rfl (by kernel_rfl) (by kernel_rfl) (by kernel_rfl) (fun _ _ _ h=>h) (Or.inl ⟨by rfl,?yeq6⟩) (by assumption) ?req6
      case yeq6=>((intro w hSw;(try dsimp only at hSw);go_simp) <;> (try with_reducible rfl))
      (try go_simp)
      refine wpAnyH_take (i:=7) (v:=?veq7) rfl (by kernel_rfl) (by kernel_rfl) (by kernel_rfl) (fun _ _ _ h=>h) (Or.inl ⟨by rfl,?yeq7⟩) (by assumption) ?req7
      case yeq7=>((intro w hSw;(try dsimp only at hSw);go_simp) <;> (try with_reducible rfl))
      (try go_simp)
      refine wpAnyH_take (i:=8) (v:=?veq8) rfl (by kernel_rfl) (by kernel_rfl) (by kernel_rfl) (fun _ _ _ h=>h) (Or.inl ⟨by rfl,?yeq8⟩) (by assumption) ?req8
      case yeq8=>((intro w hSw;(try dsimp only at hSw);go_simp) <;> (try with_reducible rfl))
      (try go_simp)
      refine wpAnyH_take (i:=9) (v:=?veq9) rfl (by kernel_rfl) (by kernel_rfl) (by kernel_rfl) (fun _ _ _ h=>h) (Or.inl ⟨by rfl,?yeq9⟩) (by assumption) ?req9
      case yeq9=>((intro w hSw;(try dsimp only at hSw);go_simp) <;> (try with_reducible rfl))
      (try go_simp)
      refine wpAnyH_take (i:=10) (v:=?veq10) rfl (by kernel_rfl) (by kernel_rfl) (by kernel_rfl) (fun _ _ _ h=>h) (Or.inl ⟨by rfl,?yeq10⟩) (by assumption) ?req10
      case yeq10=>((intro w hSw;(try dsimp only at hSw);go_simp) <;> (try with_reducible rfl))
      (try go_simp)
      refine wpAnyH_take (i:=11) (v:=?veq11) rfl (by kernel_rfl) (by kernel_rfl) (by kernel_rfl) (fun _ _ _ h=>h) (Or.inl ⟨by rfl,?yeq11⟩) (by assumption) ?req11
      case yeq11=>((intro w hSw;(try dsimp only at hSw);go_simp) <;> (try with_reducible rfl))
      (try go_simp)
      refine wpAnyH_take (i:=12) (v:=?veq12) rfl (by kernel_rfl) (by kernel_rfl) (by kernel_rfl) (fun _ _ _ h=>h) (Or.inl ⟨by rfl,?yeq12⟩) (by assumption) ?req12
      case yeq12=>((intro w hSw;(try dsimp only at hSw);go_simp) <;> (try with_reducible rfl))
      (try go_simp)
      refine wpAnyH_take (i:=13) (v:=.bool false) rfl (by kernel_rfl) (by kernel_rfl) (by kernel_rfl) (fun _ _ _ h=>h) (Or.inl ⟨by rfl,?yeq13⟩) (by assumption) ?req13
      case yeq13=>((intro w hSw;(try dsimp only at hSw);go_simp) <;> (try with_reducible rfl))
      (try go_simp)
      refine wpAnyH_take (i:=14) (v:=.bool false) rfl (by kernel_rfl) (by kernel_rfl) (by kernel_rfl) (fun _ _ _ h=>h) (Or.inl ⟨by rfl,?yeq14⟩) (by assumption) ?req14
      case yeq14=>((intro w hSw;(try dsimp only at hSw);go_simp) <;> (try with_reducible rfl))
      (try go_simp)
      refine wpAnyH_take (i:=15) (v:=?veq15) rfl (by kernel_rfl) (by kernel_rfl) (by kernel_rfl) (fun _ _ _ h=>h) (Or.inl ⟨by rfl,?yeq15⟩) (by assumption) ?req15
      case yeq15=>((intro w hSw;(try dsimp only at hSw);go_simp) <;> (try with_reducible rfl))
      (try go_simp)
      refine wpAnyH_take (i:=16) (v:=?veq16) rfl (by kernel_rfl) (by kernel_rfl) (by kernel_rfl) (fun _ _ _ h=>h) (Or.inl ⟨by rfl,?yeq16⟩) (by assumption) ?req16
      case yeq16=>((intro w hSw;(try dsimp only at hSw);go_simp) <;> (try with_reducible rfl))
      (try go_simp)
      refine wpAnyH_take (i:=17) (v:=.bool true) rfl (by kernel_rfl) (by kernel_rfl) (by kernel_rfl) (fun _ _ _ h=>h) (Or.inl ⟨by rfl,?yeq17⟩) (by assumption) ?req17
      case yeq17=>((intro w hSw;(try dsimp only at hSw);go_simp) <;> (try with_reducible rfl))
      (try go_simp)
      refine wpAnyH_take (i:=18) (v:=?veq18) rfl (by kernel_rfl) (by kernel_rfl) (by kernel_rfl) (fun _ _ _ h=>h) (Or.inl ⟨by rfl,?yeq18⟩) (by assumption) ?req18
      case yeq18=>((intro w hSw;(try dsimp only at hSw);go_simp) <;> (try with_reducible rfl))
      (try go_simp)
      refine wpAnyH_take (i:=19) (v:=?veq19) rfl (by kernel_rfl) (by kernel_rfl) (by kernel_rfl) (fun _ _ _ h=>h) (Or.inl ⟨by rfl,?yeq19⟩) (by assumption) ?req19
      case yeq19=>((intro w hSw;(try dsimp only at hSw);go_simp) <;> (try with_reducible rfl))
      (try go_simp)
      refine wpAnyH_take (i:=20) (v:=?veq20) rfl (by kernel_rfl) (by kernel_rfl) (by kernel_rfl) (fun _ _ _ h=>h) (Or.inl ⟨by rfl,?yeq20⟩) (by assumption) ?req20
      case yeq20=>((intro w hSw;(try dsimp only at hSw);go_simp) <;> (try with_reducible rfl))
      (try go_simp)
      refine wpAnyH_take (i:=21) (v:=?veq21) rfl (by kernel_rfl) (by kernel_rfl) (by kernel_rfl) (fun _ _ _ h=>h) (Or.inl ⟨by rfl,?yeq21⟩) (by assumption) ?req21
      case yeq21=>((intro w hSw;(try dsimp only at hSw);go_simp) <;> (try with_reducible rfl))
      (try go_simp)
      refine wpAnyH_take (i:=22) (v:=?veq22) rfl (by kernel_rfl) (by kernel_rfl) (by kernel_rfl) (fun _ _ _ h=>h) (Or.inl ⟨by rfl,?yeq22⟩) (by assumption) ?req22
      case yeq22=>((intro w hSw;(try dsimp only at hSw);go_simp) <;> (try with_reducible rfl))
      (try go_simp)
      refine wpAnyH_take (i:=23) (v:=?veq23) rfl (by kernel_rfl) (by kernel_rfl) (by kernel_rfl) (fun _ _ _ h=>h) (Or.inl ⟨by rfl,?yeq23⟩) (by assumption) ?req23
      case yeq23=>((intro w hSw;(try dsimp only at hSw);go_simp) <;> (try with_reducible rfl))
      (try go_simp)
      refine wpAnyH_take (i:=24) (v:=?veq24) rfl (by kernel_rfl) (by kernel_rfl) (by kernel_rfl) (fun _ _ _ h=>h) (Or.inl ⟨by rfl,?yeq24⟩) (by assumption) ?req24
      case yeq24=>((intro w hSw;(try dsimp only at hSw);go_simp) <;> (try with_reducible rfl))
      (try go_simp)
      refine wpAnyH_take (i:=25) (v:=?veq25) rfl (by kernel_rfl) (by kernel_rfl) (by kernel_rfl) (fun _ _ _ h=>h) (Or.inl ⟨by rfl,?yeq25⟩) (by assumption) ?req25
      case yeq25=>((intro w hSw;(try dsimp only at hSw);go_simp) <;> (try with_reducible rfl))
      (try go_simp)
      refine wpAnyH_take (i:=26) (v:=.bool true) rfl (by kernel_rfl) (by kernel_rfl) (by kernel_rfl) (fun _ _ _ h=>h) (Or.inl ⟨by rfl,?yeq26⟩) (by assumption) ?req26
      case yeq26=>((intro w hSw;(try dsimp only at hSw);go_simp) <;> (try with_reducible rfl))
      (try go_simp)
      refine wpAnyH_take (i:=27) (v:=.bool true) rfl (by kernel_rfl) (by kernel_rfl) (by kernel_rfl) (fun _ _ _ h=>h) (Or.inl ⟨by rfl,?yeq27⟩) (by assumption) ?req27
      case yeq27=>((intro w hSw;(try dsimp only at hSw);go_simp) <;> (try with_reducible rfl))
      (try go_simp)
      refine wpAnyH_take (i:=28) (v:=.bool true) rfl (by kernel_rfl) (by kernel_rfl) (by kernel_rfl) (fun _ _ _ h=>h) (Or.inl ⟨by rfl,?yeq28⟩) (by assumption) ?req28
      case yeq28=>((intro w hSw;(try dsimp only at hSw);go_simp) <;> (try with_reducible rfl))
      (try go_simp)
      refine wpAnyH_done (by kernel_rfl) ?_ _
      go_wp2_with fail
      refine(awake36 _).mono ?_
      rintro e w4 ⟨rfl,hb4⟩
      have hbd:=HLOW.out.drew
      have HF2:=Lib.hid (hbd.trans (hb4.mono hbd.size))
      clear hb4 hbd
      go_wp2_with fail
      go_ret
      exact⟨rfl,HF2.out⟩
    · have p3b: (y == x)=false:=by simp[p3]
      clear hcell hx hy
      go_upto_region 7 with fail
      refine wp_region_held_drew (S:=(fun w'=>w'.cell? ⟨w.heap.size,1,none⟩ = some (.slice va n0 vc)∧w'.cell? ⟨b,o+1,none⟩ = some (.int .i64 x)∧w'.cell? ⟨b,o,none⟩ = some (.int .i64 y))) (by kernel_rfl) ?_ (fun hHeld=>?_)
      · exact⟨by simpa using c1,by simpa using d0,by simpa using d1⟩
      refine wpAnyH_take (i:=0) (v:=?vne0) rfl (by kernel_rfl) (by kernel_rfl) (by kernel_rfl) (fun _ _ _ h=>h) (Or.inl ⟨by rfl,?yne0⟩) (by assumption) ?rne0
      case yne0=>((intro w hSw;(try dsimp only at hSw);go_simp) <;> (try with_reducible rfl))
      (try go_simp)
      refine wpAnyH_take (i:=1) (v:=?vne1) rfl (by kernel_rfl) (by kernel_rfl) (by kernel_rfl) (fun _ _ _ h=>h) (Or.inl ⟨by rfl,?yne1⟩) (by assumption) ?rne1
      case yne1=>((intro w hSw;(try dsimp only at hSw);go_simp) <;> (try with_reducible rfl))
      (try go_simp)
      refine wpAnyH_take (i:=2) (v:=?vne2) rfl (by kernel_rfl) (by kernel_rfl) (by kernel_rfl) (fun _ _ _ h=>h) (Or.inl ⟨by rfl,?yne2⟩) (by assumption) ?rne2
      case yne2=>((intro w hSw;(try dsimp only at hSw);go_simp) <;> (try with_reducible rfl))
      (try go_simp)
      refine wpAnyH_take (i:=3) (v:=?vne3) rfl (by kernel_rfl) (by kernel_rfl) (by kernel_rfl) (fun _ _ _ h=>h) (Or.inl ⟨by rfl,?yne3⟩) (by assumption) ?rne3
      case yne3=>((intro w hSw;(try dsimp only at hSw);go_simp) <;> (try with_reducible rfl))
      (try go_simp)
      refine wpAnyH_take (i:=4) (v:=.bool false) rfl (by kernel_rfl) (by kernel_rfl) (by kernel_rfl) (fun _ _ _ h=>h) (Or.inl ⟨by rfl,?yne4⟩) (by assumption) ?rne4
      case yne4=>((intro w hSw;(try dsimp only at hSw);go_simp) <;> (try with_reducible rfl))
      (try go_simp)
      refine wpAnyH_take (i:=5) (v:=?vne5) rfl (by kernel_rfl) (by kernel_rfl) (by kernel_rfl) (fun _ _ _ h=>h) (Or.inl ⟨by rfl,?yne5⟩) (by assumption) ?rne5
      case yne5=>((intro w hSw;(try dsimp only at hSw);go_simp) <;> (try with_reducible rfl))
      (try go_simp)
      refine wpAnyH_take (i:=6) (v:=?vne6) rfl (by kernel_rfl) (by kernel_rfl) (by kernel_rfl) (fun _ _ _ h=>h) (Or.inl ⟨by rfl,?yne6⟩) (by assumption) ?rne6
      case yne6=>((intro w hSw;(try dsimp only at hSw);go_simp) <;> (try with_reducible rfl))
      (try go_simp)
      refine wpAnyH_take (i:=7) (v:=?vne7) rfl (by kernel_rfl) (by kernel_rfl) (by kernel_rfl) (fun _ _ _ h=>h) (Or.inl ⟨by rfl,?yne7⟩) (by assumption) ?rne7
      case yne7=>((intro w hSw;(try dsimp only at hSw);go_simp) <;> (try with_reducible rfl))
      (try go_simp)
      refine wpAnyH_take (i:=8) (v:=?vne8) rfl (by kernel_rfl) (by kernel_rfl) (by kernel_rfl) (fun _ _ _ h=>h) (Or.inl ⟨by rfl,?yne8⟩) (by assumption) ?rne8
      case yne8=>((intro w hSw;(try dsimp only at hSw);go_simp) <;> (try with_reducible rfl))
      (try go_simp)
      refine wpAnyH_take (i:=9) (v:=?vne9) rfl (by kernel_rfl) (by kernel_rfl) (by kernel_rfl) (fun _ _ _ h=>h) (Or.inl ⟨by rfl,?yne9⟩) (by assumption) ?rne9
      case yne9=>((intro w hSw;(try dsimp only at hSw);go_simp) <;> (try with_reducible rfl))
      (try go_simp)
      refine wpAnyH_take (i:=10) (v:=?vne10) rfl (by kernel_rfl) (by kernel_rfl) (by kernel_rfl) (fun _ _ _ h=>h) (Or.inl ⟨by rfl,?yne10⟩) (by assumption) ?rne10
      case yne10=>((intro w hSw;(try dsimp only at hSw);go_simp) <;> (try with_reducible rfl))
      (try go_simp)
      refine wpAnyH_take (i:=11) (v:=?vne11) rfl (by kernel_rfl) (by kernel_rfl) (by kernel_rfl) (fun _ _ _ h=>h) (Or.inl ⟨by rfl,?yne11⟩) (by assumption) ?rne11
      case yne11=>((intro w hSw;(try dsimp only at hSw);go_simp) <;> (try with_reducible rfl))
      (try go_simp)
      refine wpAnyH_take (i:=12) (v:=?vne12) rfl (by kernel_rfl) (by kernel_rfl) (by kernel_rfl) (fun _ _ _ h=>h) (Or.inl ⟨by rfl,?yne12⟩) (by assumption) ?rne12
      case yne12=>((intro w hSw;(try dsimp only at hSw);go_simp) <;> (try with_reducible rfl))
      (try go_simp)
      refine wpAnyH_take (i:=13) (v:=.bool false) rfl (by kernel_rfl) (by kernel_rfl) (by kernel_rfl) (fun _ _ _ h=>h) (Or.inl ⟨by rfl,?yne13⟩) (by assumption) ?rne13
      case yne13=>((intro w hSw;(try dsimp only at hSw);go_simp) <;> (try with_reducible rfl))
      (try go_simp)
      refine wpAnyH_take (i:=14) (v:=.bool false) rfl (by kernel_rfl) (by kernel_rfl) (by kernel_rfl) (fun _ _ _ h=>h) (Or.inl ⟨by rfl,?yne14⟩) (by assumption) ?rne14
      case yne14=>((intro w hSw;(try dsimp only at hSw);go_simp) <;> (try with_reducible rfl))
      (try go_simp)
      refine wpAnyH_take (i:=15) (v:=?vne15) rfl (by kernel_rfl) (by kernel_rfl) (by kernel_rfl) (fun _ _ _ h=>h) (Or.inl ⟨by rfl,?yne15⟩) (by assumption) ?rne15
      case yne15=>((intro w hSw;(try dsimp only at hSw);go_simp) <;> (try with_reducible rfl))
      (try go_simp)
      refine wpAnyH_take (i:=16) (v:=?vne16) rfl (by kernel_rfl) (by kernel_rfl) (by kernel_rfl) (fun _ _ _ h=>h) (Or.inl ⟨by rfl,?yne16⟩) (by assumption) ?rne16
      case yne16=>((intro w hSw;(try dsimp only at hSw);go_simp) <;> (try with_reducible rfl))
      (try go_simp)
      refine wpAnyH_take (i:=17) (v:=.bool true) rfl (by kernel_rfl) (by kernel_rfl) (by kernel_rfl) (fun _ _ _ h=>h) (Or.inl ⟨by rfl,?yne17⟩) (by assumption) ?rne17
      case yne17=>((intro w hSw;(try dsimp only at hSw);go_simp) <;> (try with_reducible rfl))
      (try go_simp)
      refine wpAnyH_take (i:=18) (v:=?vne18) rfl (by kernel_rfl) (by kernel_rfl) (by kernel_rfl) (fun _ _ _ h=>h) (Or.inl ⟨by rfl,?yne18⟩) (by assumption) ?rne18
      case yne18=>((intro w hSw;(try dsimp only at hSw);go_simp) <;> (try with_reducible rfl))
      (try go_simp)
      refine wpAnyH_take (i:=19) (v:=?vne19) rfl (by kernel_rfl) (by kernel_rfl) (by kernel_rfl) (fun _ _ _ h=>h) (Or.inl ⟨by rfl,?yne19⟩) (by assumption) ?rne19
      case yne19=>((intro w hSw;(try dsimp only at hSw);go_simp) <;> (try with_reducible rfl))
      (try go_simp)
      refine wpAnyH_take (i:=20) (v:=?vne20) rfl (by kernel_rfl) (by kernel_rfl) (by kernel_rfl) (fun _ _ _ h=>h) (Or.inl ⟨by rfl,?yne20⟩) (by assumption) ?rne20
      case yne20=>((intro w hSw;(try dsimp only at hSw);go_simp) <;> (try with_reducible rfl))
      (try go_simp)
      refine wpAnyH_take (i:=21) (v:=?vne21) rfl (by kernel_rfl) (by kernel_rfl) (by kernel_rfl) (fun _ _ _ h=>h) (Or.inl ⟨by rfl,?yne21⟩) (by assumption) ?rne21
      case yne21=>((intro w hSw;(try dsimp only at hSw);go_simp) <;> (try with_reducible rfl))
      (try go_simp)
      refine wpAnyH_take (i:=22) (v:=?vne22) rfl (by kernel_rfl) (by kernel_rfl) (by kernel_rfl) (fun _ _ _ h=>h) (Or.inl ⟨by rfl,?yne22⟩) (by assumption) ?rne22
      case yne22=>((intro w hSw;(try dsimp only at hSw);go_simp) <;> (try with_reducible rfl))
      (try go_simp)
      refine wpAnyH_take (i:=23) (v:=?vne23) rfl (by kernel_rfl) (by kernel_rfl) (by kernel_rfl) (fun _ _ _ h=>h) (Or.inl ⟨by rfl,?yne23⟩) (by assumption) ?rne23
      case yne23=>((intro w hSw;(try dsimp only at hSw);go_simp) <;> (try with_reducible rfl))
      (try go_simp)
      refine wpAnyH_take (i:=24) (v:=?vne24) rfl (by kernel_rfl) (by kernel_rfl) (by kernel_rfl) (fun _ _ _ h=>h) (Or.inl ⟨by rfl,?yne24⟩) (by assumption) ?rne24
      case yne24=>((intro w hSw;(try dsimp only at hSw);go_simp) <;> (try with_reducible rfl))
      (try go_simp)
      refine wpAnyH_take (i:=25) (v:=?vne25) rfl (by kernel_rfl) (by kernel_rfl) (by kernel_rfl) (fun _ _ _ h=>h) (Or.inl ⟨by rfl,?yne25⟩) (by assumption) ?rne25
      case yne25=>((intro w hSw;(try dsimp only at hSw);go_simp) <;> (try with_reducible rfl))
      (try go_simp)
      refine wpAnyH_take (i:=26) (v:=.bool false) rfl (by kernel_rfl) (by kernel_rfl) (by kernel_rfl) (fun _ _ _ h=>h) (Or.inl ⟨by rfl,?yne26⟩) (by assumption) ?rne26
      case yne26=>((intro w hSw;(try dsimp only at hSw);go_simp) <;> (try with_reducible rfl))
      (try go_simp)
      refine wpAnyH_take (i:=27) (v:=.bool false) rfl (by kernel_rfl) (by kernel_rfl) (by kernel_rfl) (fun _ _ _ h=>h) (Or.inl ⟨by rfl,?yne27⟩) (by assumption) ?rne27
      case yne27=>((intro w hSw;(try dsimp only at hSw);go_simp) <;> (try with_reducible rfl))
      (try go_simp)
      refine wpAnyH_take (i:=28) (v:=.bool false) rfl (by kernel_rfl) (by kernel_rfl) (by kernel_rfl) (fun _ _ _ h=>h) (Or.inl ⟨by rfl,?yne28⟩) (by assumption) ?rne28
      case yne28=>((intro w hSw;(try dsimp only at hSw);go_simp) <;> (try with_reducible rfl))
      (try go_simp)
      refine wpAnyH_done (by kernel_rfl) ?_ _
      go_wp2_with fail
      go_roundw
      case rel=>exact⟨2,by omega,rfl,Lib.hid HBR.out.drew,HOK2⟩
      case measure=>simp[intOf];omega
  · obtain rfl:k=n:=by omega
    have hII:∀ a ∈ l,∃ m:Nat,a=m∧m < vals.length:=by
     intro b hb
     obtain⟨j,hj,e⟩:=List.getElem_of_mem hb
     have:=HOK.out j b (by rw[←HN.out];exact hj) (by rw[List.getElem?_eq_getElem hj,e])
     exact⟨b.toNat,by omega,by rw[HN0.out];omega⟩
    have HII:=Lib.hid hII
    have HCS:Hid (∀ W',Below wr.heap.size wr W'→W'.cell? ⟨w.heap.size,1,none⟩ = some (.slice va n0 vc)∧W'.cell? ⟨w.heap.size,2,none⟩ = some (.slice ca n1 cc)∧W'.cell? ⟨W1.heap.size,0,none⟩ = some (.slice a3 m3 k3)∧W'.cell? ⟨W1.heap.size,1,none⟩ = some (.slice a4 m4 k4)):=fun W' hW=>
     ⟨((XA.out.keep HB2R.out).keep hW).cell rfl,((XA.out.keep HB2R.out).keep hW).cell rfl,((XT.out.keep HB2R.out).keep hW).cell rfl,((XT.out.keep HB2R.out).keep hW).cell rfl⟩
    obtain⟨-,c2,-,-⟩:=HCS.out wr (Below.refl _ _)
    have HOF:Hid (Calls Tryz.prog 12 #[.slice va n0 vc,.slice ca n1 cc,.int .i64 r] wr fun e w'=>∃ u1 u2,e=.returned (.agg #[u1,u2])∧ZoneAt w' wr.heap.size u1 u2 (ofZ vals consts r).1 (ofZ vals consts r).2∧Below wr.heap.size wr w'):=
     rof_any _ _ vals consts r wr (H0.out.below (Nat.le_refl _) HLOW.out) (H1.out.below (Nat.le_refl _) HLOW.out) (by rw[HN0.out];omega) (by rw[HN1.out];omega) (fun x hx=>HI.out x hx)
    clear hII
    go_wp2_with fail
    refine HOF.out.mono ?_
    rintro e w4 ⟨u1,u2,rfl,hz4,hb4⟩
    obtain⟨z1,z1c,hu1⟩:=owns_len hz4.1
    obtain⟨z2,z2c,hu2⟩:=owns_len hz4.2
    obtain⟨W5,hW5⟩:∃ W5,w4.alloc (.cells #[u1,u2] 28)=W5:=⟨_,rfl⟩
    have hb45:Below w4.heap.size w4 W5:=by rw[←hW5];exact(Below.refl _ _).alloc (Nat.le_refl _) _
    have xz:Blk W5 w4.heap.size #[u1,u2] 28:=by rw[←hW5];exact Blk.new _ _ _
    have hbr5:Below wr.heap.size wr W5:=hb4.trans (hb45.mono hb4.size)
    have hlow5:=HLOW.out.trans (hbr5.mono HLOW.out.size)
    have hz5:ZoneAt W5 wr.heap.size u1 u2 (ofZ vals consts r).1 (ofZ vals consts r).2:=hz4.below hb45
    have HVV:∀ W',Below W5.heap.size W5 W'→_:=fun W' (hW:Below W5.heap.size W5 W')=>
     rvals_any (w:=W') r ((ZoneIn.of_at hz5).below hW) ⟨CapV.of_owns hz5.1,CapV.of_owns hz5.2⟩ (HTO.out.below (hlow5.trans (hW.mono hlow5.size))) HST.out (HLV.out.below (hlow5.trans (hW.mono hlow5.size))) HCL.out (H0.out.below (Nat.le_refl _) (hlow5.trans (hW.mono hlow5.size))) (H1.out.below (Nat.le_refl _) (hlow5.trans (hW.mono hlow5.size))) (by rw[HN0.out];exact q0) (by rw[HN1.out];exact q1) (by rw[HN.out];exact q2) HII.out q3 hr0 HI.out
    have HPV:=Lib.hid (pvals_any (w:=W5) (HT.out.keep hlow5) r (ZoneIn.of_at hz5) ⟨CapV.of_owns hz5.1,CapV.of_owns hz5.2⟩ (HTO.out.below hlow5) HST.out (HLV.out.below hlow5) HCL.out (H0.out.below (Nat.le_refl _) hlow5) (H1.out.below (Nat.le_refl _) hlow5) (by rw[HN0.out];exact q0) (by rw[HN1.out];exact q1) (by rw[HN.out];exact q2) HII.out q3 hr0 HI.out)
    have HRV:=Lib.hid HVV
    have hverr:=valsZ_err (ofZ vals consts r) tz l vals (sortS consts) r
    have hvok:=valsZ_ok (ofZ vals consts r) tz l vals (sortS consts) r
    obtain⟨A,hA⟩:∃ A,(valsZ (ofZ vals consts r) tz l vals (sortS consts) r).1=A:=⟨_,rfl⟩
    obtain⟨er,her⟩:∃ er,(valsZ (ofZ vals consts r) tz l vals (sortS consts) r).2=er:=⟨_,rfl⟩
    rw[hA,her] at HPV
    simp only[hA,her] at HRV
    rw[hA,her] at hverr hvok
    have hAl:A.length≤65536:=by
     by_cases q:er=0
     · obtain⟨_,w2,w3⟩:=hvok q
       rw[w3,pick_len _ _ _ _ _ _ w2,HN.out];omega
     · rw[hverr q];simp
    have HAL:=Lib.hid hAl
    clear hAl
    have HER:=Lib.hid hverr;have HVK:=Lib.hid hvok
    obtain⟨b1,hb1⟩:∃ n,(ofZ vals consts r).1.length=n:=⟨_,rfl⟩
    obtain⟨b2,hb2⟩:∃ n,(ofZ vals consts r).2.length=n:=⟨_,rfl⟩
    rw[hb1] at hu1;rw[hb2] at hu2
    subst hu1;subst hu2
    obtain⟨c1,c2,c3,c4⟩:=HCS.out W5 hbr5
    have g0:=xz.two.1;have g1:=xz.two.2
    have XZ:=Lib.hid xz;have HBR5:=Lib.hid hbr5;have HL5:=Lib.hid hlow5
    clear hz4 hb4 hb45 xz hbr5 hlow5 hz5 HVV hverr hvok hA her hb1 hb2 HOF
    go_wp2_with fail
    clear hW5
    refine HPV.out.mono ?_
    rintro e w6 ⟨v6,rfl,hr6,hb6⟩
    obtain⟨ad6,cp6,e6⟩:=hr6.len
    subst e6
    obtain⟨c1,c2,c3,c4⟩:=HCS.out w6 (HBR5.out.trans (hb6.mono HBR5.out.size))
    have g0:=(XZ.out.keep hb6).two.1;have g1:=(XZ.out.keep hb6).two.2
    have HRV6:=Lib.hid (HRV.out w6 hb6)
    have HB6:=Lib.hid hb6;have HR6:=Lib.hid hr6
    clear hb6 hr6 HPV HRV
    go_wp2_with fail
    refine HRV6.out.mono ?_
    rintro e w7 ⟨v7,rfl,hr7,hb7⟩
    obtain⟨ad7,cp7,e7⟩:=hr7.len
    subst e7
    have HB7:=Lib.hid (HB6.out.trans (hb7.mono HB6.out.size))
    have HR6:=Lib.hid (HR6.out.below hb7)
    have HSA:=Lib.hid (same64_eq HR6.out hr7 HAL.out)
    clear hr7 hb7 HRV6 c1 c2 c3 c4 g0 g1
    go_wp2_with fail
    refine HSA.out.mono ?_
    rintro e w8 ⟨rfl,hb8⟩
    have HB8:=Lib.hid (HB7.out.trans (hb8.mono HB7.out.size))
    have HR8:=Lib.hid (HR6.out.below hb8)
    have HL8:=Lib.hid (HL5.out.trans (HB8.out.mono HL5.out.size))
    clear hb8 HSA
    by_cases he:er=0
    rotate_left
    · have hA0:=HER.out he
      subst hA0
      go_wp2_with fail
      refine(awake36 _).mono ?_
      rintro e w9 ⟨rfl,hb9⟩
      have HF2:=Lib.hid (HL8.out.trans (hb9.mono HL8.out.size))
      clear hb9
      go_wp2_with fail
      go_ret
      exact⟨rfl,HF2.out⟩
    · subst he
      obtain⟨q5,q6,q7⟩:=HVK.out rfl
      have hto:=pick_to consts tz l vals r (by rw[HN0.out];omega) HII.out (by omega) hr0 q5 q6
      rw[←q7,HN.out] at hto
      have hAn:A.length=k:=by rw[q7,pick_len _ _ _ _ _ _ q6,HN.out]
      have hrk:k≠0→1≤r:=by
       intro hk0
       by_cases q:r < 1
       · rw[writeG_none _ _ _ q (fun e=>hk0 (by rw[←HN.out,e];rfl))] at q5;cases q5
       · omega
      have hwr:=wrapN r k hr0 q3 q2 hrk
      have hRI:∀ x ∈ setsL l A vals,-9223372036854775808≤x∧x≤9223372036854775807:=by
       rw[q7]
       exact fun x hx=>setsL_in consts tz l (ofZ vals consts r) vals r HI.out x hx
      have HRI:=Lib.hid hRI
      clear hRI
      have HTZ:=Lib.hid hto;have HAN:=Lib.hid hAn
      obtain⟨c1,-,-,-⟩:=HCS.out w8 (HBR5.out.trans (HB8.out.mono HBR5.out.size))
      have own0: (w8.alloc (.cells #[] 2)).ownsRow w8.heap.size 2 1 (.slice (some ⟨w8.heap.size,0,none⟩) 0 0) 0 []:=World.ownsRow_lit w8 #[] 0 (Nat.le_refl _) (Nat.zero_le _) rfl
      have hbl:Below w8.heap.size w8 (w8.alloc (.cells #[] 2)):=(Below.refl _ _).alloc (Nat.le_refl _) _
      obtain⟨c1a,-,-,-⟩:=HCS.out _ (HBR5.out.trans ((HB8.out.trans (hbl.mono HB8.out.size)).mono HBR5.out.size))
      have rv:=H0.out.below (Nat.le_refl _) (HL8.out.trans (hbl.mono HL8.out.size))
      have hlv0: (ints vals).length=vals.length:=ints_len vals
      have hv4:vals.length≤4:=by rw[HN0.out];exact q0
      have HR1:=Lib.hid hrk
      clear q5 q6 q7 hto hAn hrk
      go_upto_region 17 with(first
       | (at_builtin;refine appR _ rfl _ _ 22 rfl w8.heap.size 2 (.int .i64 0) 8 Tryz.underlying22 info_int64 rfl (by decide) _ 0 [] rfl (by exact own0) _ _ rfl rv (ints_one _) (by rw[hlv0];omega) (by simp) ?_;clear own0 rv;intro nv w9 hnow0 hb90)
       | fail)
      have hnow:w9.ownsRow w8.heap.size 2 1 nv vals.length (ints vals):=by rw[Nat.zero_add,List.nil_append,hlv0] at hnow0;exact hnow0
      have hb9:Below w8.heap.size w8 w9:=hbl.trans hb90
      obtain⟨na,nc,hnv⟩:=owns_len hnow
      rw[HN0.out] at hnv
      subst hnv
      have HNW:=Lib.hid hnow;have HB9:=Lib.hid hb9
      clear hnow0 hb90 hbl hlv0 hnow hb9 c1 c1a hv4
      go_wp2_with fail
      go_loopw [15] (fun i wr=>∃ t:Nat,t≤k∧i=.int .i64 t∧Hid (Below w8.heap.size w8 wr)∧Hid (wr.ownsRow w8.heap.size 2 1 (.slice na n0 nc) n0 (ints (setsL (l.take t) (A.take t) vals)))) (fun i _=>k - (intOf i).toNat)
      case atStart=>exact⟨0,Nat.zero_le _,rfl,HB9.out,by unfold Hid;have:=HNW.out;rw[HN0.out] at this;exact this⟩
      case round=>
       obtain⟨t,ht,rfl,HBV,HOW⟩:=hrel
       have HLV9:=Lib.hid (HL8.out.trans (HBV.out.mono HL8.out.size))
       by_cases htk:t < k
       · have htk1: (t:Int) < (k:Int):=by omega
         have ht0: (0:Int)≤(t:Int):=by omega
         obtain⟨x,hx⟩:∃ x,l[t]?=some x:=⟨_,List.getElem?_eq_getElem (by rw[HN.out];exact htk)⟩
         obtain⟨ak,rfl,hak⟩:=HII.out x (List.mem_of_getElem? hx)
         obtain⟨nm,hnm⟩:∃ n,A[t]?=some n:=⟨_,List.getElem?_eq_getElem (by rw[HAN.out];exact htk)⟩
         have htA: (t:Int) < (A.length:Int):=by rw[HAN.out];exact htk1
         have hak0:ak < n0:=by rw[←HN0.out];exact hak
         have hak1: (ak:Int) < (n0:Int):=by omega
         have hak2: (0:Int)≤(ak:Int):=by omega
         obtain⟨lb,lo,hlq,hlb,hlc⟩:=(HLV.out.below HLV9.out).at (by rw[HN.out];omega)
         obtain⟨lb',lo',hlq',hlb',-⟩:=HLV.out.at (by rw[HN.out];omega)
         obtain⟨ab,ao,haq,hab,hac⟩:=(HR8.out.below HBV.out).at (by rw[HAN.out];omega)
         obtain⟨ab',ao',haq',hab',-⟩:=HR8.out.at (by rw[HAN.out];omega)
         cases hlq;cases hlq';cases haq;cases haq'
         have d0:wr.cell? ⟨lb,lo+t,none⟩ = some (.int .i64 ak):=hlc t _ (by unfold ints;rw[List.getElem?_map,hx];rfl)
         have d1:wr.cell? ⟨ab,ao+t,none⟩ = some (.int .i64 nm):=hac t _ (by unfold ints;rw[List.getElem?_map,hnm];rfl)
         obtain⟨nb,cp9,e9,hnb1,_⟩:=owns_shape HOW.out (by omega)
         simp only[Value.slice.injEq,true_and] at e9
         obtain⟨rfl,rfl⟩:=e9
         have hrow: (setsL (l.take t) (A.take t) vals).length=n0:=by rw[setsL_len,HN0.out]
         obtain⟨old,hold⟩:∃ o,(setsL (l.take t) (A.take t) vals)[ak]?=some o:=⟨_,List.getElem?_eq_getElem (by rw[hrow];exact hak0)⟩
         have f0:wr.cell? ⟨nb,ak,none⟩ = some (.int .i64 old):=by
          rw[HOW.out.cellAt _ (by omega)]
          unfold ints
          rw[List.getElem?_map,hold];rfl
         have f1:wr.frozen? ⟨nb,ak,none⟩ = false:=owns_frozen HOW.out ak
         have hs:=(HOW.out.stored ak (.int .i64 nm)).1
         have HSS:Hid ((wr.setCell ⟨nb,ak,none⟩ (.int .i64 nm)).ownsRow w8.heap.size 2 1 (.slice (some ⟨nb,0,none⟩) n0 nc) n0 (ints (setsL (l.take (t+1)) (A.take (t+1)) vals))):=by
          unfold Hid
          rw[setsL_step l A vals t ak nm (by rw[HN.out,HAN.out]) hx hnm,Int.toNat_natCast]
          have e:ints ((setsL (l.take t) (A.take t) vals).set ak nm)= (ints (setsL (l.take t) (A.take t) vals)).set ak (.int .i64 nm):=by simp[ints,List.map_set]
          rw[e]
          exact hs
         have HBS:Hid (Below w8.heap.size w8 (wr.setCell ⟨nb,ak,none⟩ (.int .i64 nm))):=HBV.out.setCell (p:=⟨nb,ak,none⟩) hnb1 _
         have hl8:=HL8.out.size
         have hne1:lb≠nb:=by omega
         have hne2:ab≠nb:=by omega
         have g5: (wr.setCell ⟨nb,ak,none⟩ (.int .i64 nm)).drew.cell? ⟨lb,lo+t,none⟩ = some (.int .i64 ak):=(World.cell?_of_block (a:=⟨lb,lo+t,none⟩) (Below.heap_setCell wr ⟨nb,ak,none⟩ (.int .i64 nm) lb hne1)).trans d0
         have g6: (wr.setCell ⟨nb,ak,none⟩ (.int .i64 nm)).drew.cell? ⟨ab,ao+t,none⟩ = some (.int .i64 nm):=(World.cell?_of_block (a:=⟨ab,ao+t,none⟩) (Below.heap_setCell wr ⟨nb,ak,none⟩ (.int .i64 nm) ab hne2)).trans d1
         clear hx hnm hlc hac hold hs hrow hlb hab hl8 hak
         go_wp2
         go_region_held3 (fun w'=>w'.cell? ⟨lb,lo+t,none⟩ = some (.int .i64 ak)∧w'.cell? ⟨ab,ao+t,none⟩ = some (.int .i64 nm))
          (first|exact⟨g5,g6⟩ | go_keep| (refine⟨?_,?_⟩ <;> (first|assumption|go_keep)))
          (fail)
         all_goals
          go_wp2_with fail
          go_roundw
          case rel=>exact⟨t+1,by omega,by go_num,Lib.hid HBS.out.drew,Lib.hid HSS.out.drew⟩
          case measure=>simp[intOf];omega
       · obtain rfl:t=k:=by omega
         have hrowE:setsL (l.take t) (A.take t) vals=setsL l A vals:=by
          rw[List.take_of_length_le (by rw[HN.out];exact Nat.le_refl _),List.take_of_length_le (by rw[HAN.out];exact Nat.le_refl _)]
         have how:=HOW.out
         rw[hrowE] at how
         have hrl: (setsL l A vals).length=n0:=by rw[setsL_len,HN0.out]
         have hbw5:Below W5.heap.size W5 wr:=HB8.out.trans (HBV.out.mono HB8.out.size)
         have hbwr:Below w.heap.size w wr:=HLV9.out
         obtain⟨Rw,hRw⟩:∃ R,setsL l A vals=R:=⟨_,rfl⟩
         rw[hRw] at how hrl
         have HTZ2:Hid (ofZ Rw consts (r - (t:Int))=tz):=by unfold Hid;rw[←hRw];exact HTZ.out
         have hRI:∀ x ∈ Rw ++consts,-9223372036854775808≤x∧x≤9223372036854775807:=by
          intro x hx
          rcases List.mem_append.1 hx with hx|hx
          · exact HRI.out x (by rw[hRw];exact hx)
          · exact HI.out x (List.mem_append_right _ hx)
         have HOF2:Hid (∀ W',Below wr.heap.size wr W'→Calls Tryz.prog 12 #[.slice na n0 nc,.slice ca n1 cc,.int .i64 (r - t)] W' fun e w'=>∃ u1 u2,e=.returned (.agg #[u1,u2])∧ZoneAt w' W'.heap.size u1 u2 tz.1 tz.2∧Below W'.heap.size W' w'):=by
          intro W' hW
          have hlw:=hbwr.trans (hW.mono hbwr.size)
          have h:=rof_any (.slice na n0 nc) (.slice ca n1 cc) Rw consts (r - t) W' (Reads.of_owns (e:=2) (n:=n0) (owns_below how hW)) (H1.out.below (Nat.le_refl _) hlw) (by rw[hrl];omega) (by rw[HN1.out];omega) hRI
          rw[show zoneZ (fun x k=>Rw.getD k 0 == x) Rw.length (sortS consts) (sortS (Rw ++consts)) (kap (r - t))=tz from HTZ2.out] at h
          exact h
         have HSF2:Hid (∀ W',Below wr.heap.size wr W'→W'.cell? ⟨w.heap.size,2,none⟩ = some (.slice ca n1 cc)∧W'.cell? ⟨W1.heap.size,0,none⟩ = some (.slice a3 m3 k3)∧W'.cell? ⟨W1.heap.size,1,none⟩ = some (.slice a4 m4 k4)):=by
          intro W' hW
          obtain⟨-,g2,g3,g4⟩:=HCS.out W' (HBR5.out.trans ((hbw5.trans (hW.mono hbw5.size)).mono HBR5.out.size))
          exact⟨g2,g3,g4⟩
         have HLW:=Lib.hid hbwr
         have HS2:=Lib.hid (HST.out.1);have HS3:=Lib.hid (HST.out.2)
         have hbz:Below wr.heap.size wr wr.drew:=(Below.refl _ _).drew
         obtain⟨c2,c3,c4⟩:=HSF2.out wr (Below.refl _ _)
         clear hrowE how hrl hbw5 hbwr hRw hRI
         go_wp2
         go_region_held3 (fun w'=>w'.cell? ⟨w.heap.size,2,none⟩ = some (.slice ca n1 cc)∧w'.cell? ⟨W1.heap.size,0,none⟩ = some (.slice a3 m3 k3)∧w'.cell? ⟨W1.heap.size,1,none⟩ = some (.slice a4 m4 k4))
          (first|exact HSF2.out _ (by assumption)|go_keep)
          (first
            | (go_simp;go_at_call 12;(with_reducible refine(HOF2.out _ (by assumption)).mono ?_)
               rintro e w10 ⟨u1,u2,rfl,hzz,hbs⟩
               have hbz:=hbz.trans (hbs.mono hbz.size)
               clear hbs)
            | (go_simp;go_at_call 16;(with_reducible refine(zsameNI_any _ _ _ _ tz.1 tz.1 tz.2 tz.2 _ (ZoneIn.of_at hzz) (HTO.out.below (HLW.out.trans (hbz.mono HLW.out.size))) (Nat.le_trans HS2.out (by decide)) (Nat.le_trans HS3.out (by decide)) (Nat.le_trans HS2.out (by decide)) (Nat.le_trans HS3.out (by decide))).mono ?_)
               rw[decide_eq_true (rfl: (tz.1,tz.2)= (tz.1,tz.2))]
               rintro e w11 ⟨rfl,hbs⟩
               have hbz:=hbz.trans (hbs.mono hbz.size)
               clear hbs hzz)
            | (go_simp;go_at_call 11;(with_reducible refine(awake36 _).mono ?_)
               rintro e w12 ⟨rfl,hbs⟩
               have hbz:=hbz.trans (hbs.mono hbz.size)
               clear hbs))
         all_goals
          go_wp2_with fail
          go_ret
          exact⟨rfl,HLW.out.trans (hbz.mono HLW.out.size)⟩
end Go.Proofs.YtkkoooagamadjaaGreatDoor
