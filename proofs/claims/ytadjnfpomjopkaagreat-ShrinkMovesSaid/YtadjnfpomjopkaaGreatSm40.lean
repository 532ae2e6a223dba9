import Derived.Test.YtadjnfpomjopkaaGreatSm39
import Derived.Test.YtadjnfpomjopkaaGreatSm38
namespace Go.Proofs.YtadjnfpomjopkaaGreat
open Go.RowKit
theorem setV_mem:∀ (A N l:List Int) {x:Int},x ∈ setV A N l→x ∈ l∨x ∈ N
 | [],N,l,x,h=>by cases N <;> exact .inl h
 | _ :: _,[],l,x,h=>.inl h
 | a :: A,n :: N,l,x,h=>by
   unfold setV at h
   rcases setV_mem A N _ h with h|h
   · split at h
     · rcases List.mem_or_eq_of_mem_set h with h|h
       · exact .inl h
       · exact .inr (by rw[h];exact List.mem_cons_self)
     · exact .inl h
   · exact .inr (List.mem_cons_of_mem _ h)
theorem SOK.take {M:Mdl} {s:Sta} {v:Mv} (h:SOK s) (hvn:∀ n ∈ v.vals,N64 n) (hg:GoodD M) (e1:mayS M s v=0) (e2:idlM v=false):SOK (takeS M s v):=by
 obtain⟨k,hk,hkl,hL,hvl,hcn⟩:=may_take hg e1 e2
 refine⟨fun x hx=>?_,h.opn,h.dne,fun x hx=>?_,fun x hx=>?_⟩
 · rcases setV_mem _ _ _ hx with hx|hx
   · exact h.vals x hx
   · exact hvn x hx
 · rcases List.mem_or_eq_of_mem_set hx with hx|hx
   · exact h.did x hx
   · rw[hx];exact putZ_n64 _ _ _
 · unfold takeS at hx
   dsimp only at hx
   rw[hk,Int.toNat_natCast] at hx
   split at hx
   · rename_i ht
     rcases List.mem_or_eq_of_mem_set hx with hx|hx
     · exact h.cnt x hx
     · rw[hx];exact hcn ht
   · exact h.cnt x hx
theorem SOK.zero:SOK zeroS:=⟨(fun _ h=>by cases h),(by show N64 0;unfold N64;omega),(by show N64 0;unfold N64;omega),(fun _ h=>by cases h),(fun _ h=>by cases h)⟩
theorem SOK.do {M:Mdl} {s:Sta} {v:Mv} (h:SOK s) (hvn:∀ n ∈ v.vals,N64 n) (hg:GoodD M):SOK (doS M s v).1:=by
 unfold doS
 split
 · exact SOK.zero
 · rename_i h1
   split
   · exact h
   · rename_i h2
     exact(SOK.take h hvn hg (by simpa using h1) (by simpa using h2)).pass v.event
theorem rdo_results {V:World} {b:Nat} {a0 a1 a2 a3 a4:Value} {z:Int} {tmps:Array Value} (hb:Blk V b #[a0,a1,a2,a3,a4] 44) (h4:tmps[6]?=some (.pointer (some ⟨b,0,none⟩))) (h5:tmps[7]?=some (.int .i64 z)) :
 (results Tryz.f38 tmps).run Tryz.prog V=.ok (.tuple #[.agg #[a0,a1,a2,a3,a4],.int .i64 z]) V:=by
 have e0:=hb.cell (i:=0) rfl
 have e1:=hb.cell (i:=1) rfl
 have e2:=hb.cell (i:=2) rfl
 have e3:=hb.cell (i:=3) rfl
 have e4:=hb.cell (i:=4) rfl
 simp[results,Tryz.results38,go_sem,e0,e1,e2,e3,e4,h4,h5]
set_option maxRecDepth 100000 in
set_option maxHeartbeats 8000000 in
theorem rdoQ {w:World} {q:Mem} {M:Mdl} {r:Stm} {s:Sta} (hm:MdQ w q M) (hs:StQ w r s) (hk:SOK s) {v:Mv} {ad:Option Addr} {cp:Nat} (hv:RowE intE 1 w (.slice ad v.vals.length cp) v.vals) (hvn:∀ n ∈ v.vals,N64 n) (hg:GoodD M) (hr:GoodR M) (hbd:Bd s) :
 Calls Tryz.prog 38 #[.agg (mdC q M),.agg (stC r s),.agg #[.int .i64 v.event,.int .i64 v.user,.slice ad v.vals.length cp]] w (DoP w M r s v):=by
 obtain⟨W1,W2,h1,h2,HB2,HM,HS,HF⟩:=boxMS hm hs
 obtain⟨W3,h3,hb3,x3⟩:=box1 W2 #[.int .i64 v.event,.int .i64 v.user,.slice ad v.vals.length cp] 58
 obtain⟨W4,h4,hb4,x4⟩:=box1 W3 #[.slice none 0 0,.int .i64 0,.int .i64 0,.slice none 0 0,.slice none 0 0] 44
 have hb24:=hb3.trans (hb4.mono hb3.size)
 have hs3:W3.heap.size=W2.heap.size+1:=by rw[←h3];simp
 have HB24:=Lib.hid hb24
 have HX:=Lib.hid (And.intro (x3.keep hb4) x4)
 have HSZ:=Lib.hid hs3
 have HSQ:=Lib.hid hs
 have HVQ:Hid (∀ V,Below W2.heap.size W2 V→RowE intE 1 V (.slice ad v.vals.length cp) v.vals):=fun V hV=>hv.below intE_keep (HB2.out.trans (hV.mono HB2.out.size))
 have HMY:Hid (∀ V,Below W2.heap.size W2 V→Calls Tryz.prog 52 #[.agg (mdC q M),.agg (stC r s),.agg #[.int .i64 v.event,.int .i64 v.user,.slice ad v.vals.length cp]] V (Ret V (.int .i64 (mayS M s v)))):=fun V hV=>rmayQ (HM.out.below hV) (HS.out.below hV) hk hr v ad cp
 have HID:Hid (∀ V,Calls Tryz.prog 53 #[.agg #[.int .i64 v.event,.int .i64 v.user,.slice ad v.vals.length cp]] V (Ret V (.bool (idlM v)))):=fun V=>ridleQ v ad cp
 have HBE:Hid (∀ V,Below W2.heap.size W2 V→Below w.heap.size w V):=fun V hV=>HB2.out.trans (hV.mono HB2.out.size)
 have HTK:Hid (mayS M s v=0→idlM v=false→∀ V,Below W2.heap.size W2 V→Calls Tryz.prog 54 #[.agg (mdC q M),.agg (stC r s),.agg #[.int .i64 v.event,.int .i64 v.user,.slice ad v.vals.length cp]] V (TkP V M s v)):=by
  intro e1 e2 V hV
  obtain⟨k,hk1,hkl,hL,hvl,hcn⟩:=may_take hg e1 e2
  exact rtakeQ (HM.out.below hV) (HS.out.below hV) hk (HVQ.out V hV) hk1 hkl hL hvl hcn
 have HPA:Hid (mayS M s v=0→idlM v=false→∀ V r',Below W2.heap.size W2 V→StQ V r' (takeS M s v)→Calls Tryz.prog 50 #[.agg (mdC q M),.agg (stC r' (takeS M s v)),.int .i64 v.event] V (Ret V (.agg (stC r' (pasS M v.event (takeS M s v)))))):=fun e1 e2 V r' hV hS=>rpassQ (HM.out.below hV) hS (SOK.take hk hvn hg e1 e2) v.event hr.stages hr.miles
 have HBD:Hid (Bd (takeS M s v)):=hbd
 obtain⟨mz,hmz⟩:∃ m,mayS M s v=m:=⟨_,rfl⟩
 obtain⟨iz,hiz⟩:∃ m,idlM v=m:=⟨_,rfl⟩
 have HMZ:=Lib.hid hmz
 have HIZ:=Lib.hid hiz
 rw[hmz] at HMY
 rw[hiz] at HID
 unfold MdB StB at HF
 unfold mdC at h1 HMY HTK HPA
 unfold stC at h2 HMY HTK
 unfold mdC stC
 clear hm hs hk hv hvn hg hr hbd hb3 hb4 x3 x4 hb24 hs3 hmz hiz
 obtain⟨⟨c0,c1,c2,c3,c4,c5,c6,c7,c8,c9⟩,d0,d1,d2,d3,d4⟩:=HF.out _ HB24.out
 have y0:=HX.out.1.cell (i:=0) rfl
 have y1:=HX.out.1.cell (i:=1) rfl
 have y2:=HX.out.1.cell (i:=2) rfl
 go_enter Tryz.func38,Tryz.ntmps38
 go_wp2_with fail
 refine(HMY.out _ HB24.out).mono ?_
 rintro e5 W5 ⟨rfl,hb5⟩
 have HB5:=Lib.hid (HB24.out.trans (hb5.mono HB24.out.size))
 have HX5:=Lib.hid (And.intro (HX.out.1.keep hb5) (HX.out.2.keep hb5))
 clear hb5 c0 c1 c2 c3 c4 c5 c6 c7 c8 c9 d0 d1 d2 d3 d4 y0 y1 y2
 by_cases hm0:mz=0
 · subst hm0
   have y0:=HX5.out.1.cell (i:=0) rfl
   have y1:=HX5.out.1.cell (i:=1) rfl
   have y2:=HX5.out.1.cell (i:=2) rfl
   go_wp2_with fail
   refine(HID.out _).mono ?_
   rintro e6 W6 ⟨rfl,hb6⟩
   have HB6:=Lib.hid (HB5.out.trans (hb6.mono HB5.out.size))
   have HX6:=Lib.hid (And.intro (HX5.out.1.keep hb6) (HX5.out.2.keep hb6))
   clear hb6 y0 y1 y2
   cases iz
   · have HDO:Hid (doS M s v= (pasS M v.event (takeS M s v),0)):=by unfold Hid doS;rw[if_neg (by rw[HMZ.out];simp),if_neg (by rw[HIZ.out];simp)]
     have HT6:=Lib.hid (HTK.out HMZ.out HIZ.out)
     have HSF:Hid (∀ V,Below W3.heap.size W6 V→(MdB V w.heap.size q M∧StB V W1.heap.size r s)∧V.cell? ⟨W2.heap.size,0,none⟩ = some (.int .i64 v.event)∧V.cell? ⟨W2.heap.size,1,none⟩ = some (.int .i64 v.user)∧V.cell? ⟨W2.heap.size,2,none⟩ = some (.slice ad v.vals.length cp)):=fun V hV=>⟨by unfold MdB StB;exact HF.out V (HB6.out.trans (hV.mono (by have:=HSZ.out;omega))),(HX6.out.1.low hV (by have:=HSZ.out;omega)).cell rfl,(HX6.out.1.low hV (by have:=HSZ.out;omega)).cell rfl,(HX6.out.1.low hV (by have:=HSZ.out;omega)).cell rfl⟩
     have HLE:Hid (W3.heap.size≤W6.heap.size):=Nat.le_of_lt HX6.out.2.lt
     have HXR:=HX6.out.2.drew
     have hbz:Below W6.heap.size W6 W6.drew:=(Below.refl _ _).drew
     have HBZ:=Lib.hid (fun V (hV:Below W6.heap.size W6 V)=>HB6.out.trans (hV.mono HB6.out.size))
     go_upto_region 6 with fail
     refine startH (S:=fun V=>(MdB V w.heap.size q M∧StB V W1.heap.size r s)∧V.cell? ⟨W2.heap.size,0,none⟩ = some (.int .i64 v.event)∧V.cell? ⟨W2.heap.size,1,none⟩ = some (.int .i64 v.user)∧V.cell? ⟨W2.heap.size,2,none⟩ = some (.slice ad v.vals.length cp)) (by kernel_rfl) (HSF.out _ (hbz.mono HLE.out)) (fun hHeld=>?_)
     generalize W6.drew=D at hbz hHeld HXR ⊢
     refine takesH [0,1,2,3,5,6] (by kernel_rfl) (fun _ _ d _ _ h=>by cases d <;> exact h) (by kernel_rfl) (by kernel_rfl) (by assumption) ?_
     repeat (first
      | (refine TakeSeq.cons (v:=?_) rfl (by rfl) ?_ ?_
         rotate_left
         · ((intro w hSw;unfold MdB StB at hSw;go_simp) <;> (try with_reducible rfl))
         (try go_simp))
      | (refine TakeSeq.skip rfl (by rfl) ?_;(try go_simp)))
     refine TakeSeq.nil ?_
     refine callH 4 (by kernel_rfl) (by kernel_rfl) rfl (by rfl) ?_
     intro K hK
     go_simp
     go_at_call 54
     with_reducible refine(HT6.out _ (HBZ.out _ hbz)).mono ?_
     rintro e7 W7 ⟨⟨r7,rfl,hS7,hA7⟩,hbn⟩
     have hlt:=HXR.lt
     have hbz:=hbz.trans (hbn.mono hbz.size)
     replace HXR:=HXR.keep hbn
     refine hK.out _ _ (HSF.out _ (hbz.mono HLE.out)) (fun hHeld=>?_)
     clear hK K hbn
     (try go_simp)
     have HPX:=Lib.hid (HPA.out HMZ.out HIZ.out _ r7 (HBZ.out _ hbz) hS7)
     refine callH 7 (by kernel_rfl) (by kernel_rfl) rfl (by rfl) ?_
     intro K hK
     go_simp
     go_at_call 50
     with_reducible refine HPX.out.mono ?_
     rintro e8 W8 ⟨rfl,hbn⟩
     have hbz:=hbz.trans (hbn.mono hbz.size)
     replace HXR:=HXR.keep hbn
     have hS8:StQ W8 r7 (pasS M v.event (takeS M s v)):=(StQ.pass v.event hS7 HBD.out).below hbn
     have hA8:StA D.heap.size r7 (pasS M v.event (takeS M s v)):=hA7.pass v.event
     obtain⟨sp,hsp⟩:∃ s',pasS M v.event (takeS M s v)=s':=⟨_,rfl⟩
     have HSP:=Lib.hid hsp
     rw[hsp] at hS8 hA8 ⊢
     refine hK.out _ _ (HSF.out _ (hbz.mono HLE.out)) (fun hHeld=>?_)
     clear hK K hbn hS7 hA7 HPX HPA HT6 HTK hsp
     unfold stC
     (try go_simp)
     have u0:=HXR.cell (i:=0) rfl
     have t0:=HXR.free 0
     have u1:=HXR.cell (i:=1) rfl
     have t1:=HXR.free 1
     have u2:=HXR.cell (i:=2) rfl
     have t2:=HXR.free 2
     have u3:=HXR.cell (i:=3) rfl
     have t3:=HXR.free 3
     have u4:=HXR.cell (i:=4) rfl
     have t4:=HXR.free 4
     refine callH 8 (by kernel_rfl) (by kernel_rfl) rfl (by rfl) ?_
     intro K hK
     go_simp
     refine hK.out _ _ (HSF.out _ (below_put5 (hbz.mono HLE.out) (Nat.le_refl _) _ _ _ _ _)) (fun hHeld=>?_)
     clear hK K
     (try go_simp)
     refine callH 9 (by kernel_rfl) (by kernel_rfl) rfl (by rfl) ?_
     intro K hK
     go_simp
     refine hK.out _ _ hHeld (fun hHeld=>?_)
     clear hK K
     (try go_simp)
     refine doneH (by kernel_rfl) ?_
     go_wp2
     have hp:=HXR.put5 (.slice r7.a0 sp.vals.length r7.k0) (.int .i64 sp.opn) (.int .i64 sp.dne) (.slice r7.a3 sp.did.length r7.k3) (.slice r7.a4 sp.cnt.length r7.k4)
     refine bodyPost_ret (v:=.tuple #[.agg #[.slice r7.a0 sp.vals.length r7.k0,.int .i64 sp.opn,.int .i64 sp.dne,.slice r7.a3 sp.did.length r7.k3,.slice r7.a4 sp.cnt.length r7.k4],.int .i64 0]) (rdo_results hp rfl rfl) rfl ?_
     have hT:=(Turned.refl HXR).put5 (.slice r7.a0 sp.vals.length r7.k0) (.int .i64 sp.opn) (.int .i64 sp.dne) (.slice r7.a3 sp.did.length r7.k3) (.slice r7.a4 sp.cnt.length r7.k4)
     have hbx:Below w.heap.size w _:=(HBE.out _ (HB6.out.trans (hbz.mono HB6.out.size))).trans (hT.2.1.mono (by have:=HSZ.out;have:=HB2.out.size;omega))
     unfold DoP
     rw[HDO.out]
     dsimp only
     rw[HSP.out]
     exact⟨⟨r7,rfl,hS8.turn hA8 hT hlt,.inr (hA8.mono (by have:=HSZ.out;have:=HB2.out.size;omega))⟩,hbx⟩
   · have HDO:Hid (doS M s v= (s,0)):=by unfold Hid doS;rw[if_neg (by rw[HMZ.out];simp),if_pos HIZ.out]
     obtain⟨⟨c0,c1,c2,c3,c4,c5,c6,c7,c8,c9⟩,d0,d1,d2,d3,d4⟩:=HF.out _ HB6.out
     have u0:=HX6.out.2.cell (i:=0) rfl
     have t0:=HX6.out.2.free 0
     have u1:=HX6.out.2.cell (i:=1) rfl
     have t1:=HX6.out.2.free 1
     have u2:=HX6.out.2.cell (i:=2) rfl
     have t2:=HX6.out.2.free 2
     have u3:=HX6.out.2.cell (i:=3) rfl
     have t3:=HX6.out.2.free 3
     have u4:=HX6.out.2.cell (i:=4) rfl
     have t4:=HX6.out.2.free 4
     go_wp2
     have hp:=HX6.out.2.put5 (.slice r.a0 s.vals.length r.k0) (.int .i64 s.opn) (.int .i64 s.dne) (.slice r.a3 s.did.length r.k3) (.slice r.a4 s.cnt.length r.k4)
     refine bodyPost_ret (v:=.tuple #[.agg #[.slice r.a0 s.vals.length r.k0,.int .i64 s.opn,.int .i64 s.dne,.slice r.a3 s.did.length r.k3,.slice r.a4 s.cnt.length r.k4],.int .i64 0]) (rdo_results hp rfl rfl) rfl ?_
     have hbx:=below_put5 (B:=w.heap.size) (HBE.out _ HB6.out) (by have:=HSZ.out;have:=HB2.out.size;omega:w.heap.size≤W3.heap.size) (.slice r.a0 s.vals.length r.k0) (.int .i64 s.opn) (.int .i64 s.dne) (.slice r.a3 s.did.length r.k3) (.slice r.a4 s.cnt.length r.k4)
     unfold DoP
     rw[HDO.out]
     exact⟨⟨r,rfl,HSQ.out.below hbx,.inl ⟨rfl,rfl⟩⟩,hbx⟩
 · have HDO:Hid (doS M s v= (zeroS,mz)):=by unfold Hid doS;rw[if_pos (by rw[HMZ.out];exact hm0),HMZ.out]
   have hb: (mz !=0)=true:=by simp[hm0]
   have u0:=HX5.out.2.cell (i:=0) rfl
   have t0:=HX5.out.2.free 0
   have u1:=HX5.out.2.cell (i:=1) rfl
   have t1:=HX5.out.2.free 1
   have u2:=HX5.out.2.cell (i:=2) rfl
   have t2:=HX5.out.2.free 2
   have u3:=HX5.out.2.cell (i:=3) rfl
   have t3:=HX5.out.2.free 3
   have u4:=HX5.out.2.cell (i:=4) rfl
   have t4:=HX5.out.2.free 4
   clear hm0
   go_wp2
   have hp:=HX5.out.2.put5 (.slice none 0 0) (.int .i64 0) (.int .i64 0) (.slice none 0 0) (.slice none 0 0)
   refine bodyPost_ret (v:=.tuple #[.agg #[.slice none 0 0,.int .i64 0,.int .i64 0,.slice none 0 0,.slice none 0 0],.int .i64 mz]) (rdo_results hp rfl rfl) rfl ?_
   have hbx:=below_put5 (B:=w.heap.size) (HBE.out _ HB5.out) (by have:=HSZ.out;have:=HB2.out.size;omega:w.heap.size≤W3.heap.size) (.slice none 0 0) (.int .i64 0) (.int .i64 0) (.slice none 0 0) (.slice none 0 0)
   unfold DoP
   rw[HDO.out]
   exact⟨⟨⟨none,0,none,0,none,0⟩,rfl,StQ.zero _,.inr (StA.zero _)⟩,hbx⟩
end Go.Proofs.YtadjnfpomjopkaaGreat
namespace Go.Proofs.YtadjnfpomjopkaaGreat
open Go.RowKit Go.Shelf
attribute [local go_sem] Oper.semAt_some
set_option maxRecDepth 100000 in
set_option maxHeartbeats 4000000 in
theorem allQ {w:World} {q:Mem} {M:Mdl} (hm:MdQ w q M) {lad:Option Addr} {lcp:Nat} {L:List Mv} (hl:RowE moveE 3 w (.slice lad L.length lcp) L) (hg:GoodD M) (hlen:L.length≤1000) :
 Calls Tryz.prog 28 #[.agg (mdC q M),.slice lad L.length lcp] w fun e w'=>(∃ v,e=.returned (.tuple #[v,.int .i64 (allG M L).2])∧RowE (stateE w.heap.size) 5 w' v (allG M L).1)∧Below w.heap.size w w':=by
 obtain⟨W1,h1,HB1,HM,HF⟩:=boxM hm
 obtain⟨W2,h2,hb2,x2⟩:=box1 W1 #[.slice none 0 0] 75
 obtain⟨W3,h3,hb3,x3⟩:=box1 W2 #[.int .i64 0] 68
 obtain⟨W4,h4,hb4,x4⟩:=box1 W3 #[.slice none 0 0] 75
 obtain⟨W5,h5,hb5,x5⟩:=box1 W4 (mdC q M) 32
 obtain⟨W6,h6,hb6,x6⟩:=box1 W5 #[.slice lad L.length lcp] 33
 have hs2:W2.heap.size=W1.heap.size+1:=by rw[←h2];simp
 have hs3:W3.heap.size=W2.heap.size+1:=by rw[←h3];simp
 have hs4:W4.heap.size=W3.heap.size+1:=by rw[←h4];simp
 have hs5:W5.heap.size=W4.heap.size+1:=by rw[←h5];simp
 have hs6:W6.heap.size=W5.heap.size+1:=by rw[←h6];simp
 have hb46:=hb5.trans (hb6.mono hb5.size)
 have hb36:=hb4.trans (hb46.mono hb4.size)
 have hb26:=hb3.trans (hb36.mono hb3.size)
 have hb16:=hb2.trans (hb26.mono hb2.size)
 have hbw:=HB1.out.trans (hb16.mono HB1.out.size)
 have hS:=HB1.out.size
 have hfr:∀ k,k≠W3.heap.size→Free W3.heap.size W6 k:=fun k _ v hv=>by
  rw[(x4.keep hb46).cell rfl] at hv;cases hv;simp[Value.ownBlock]
 have hbM:=x5.keep hb6
 have HSEQ:=Lib.hid (states_seq 9 W4.heap.size (W4.heap.size+1) W3.heap.size w.heap.size W6 (q:=q) (M:=M) (lad:=lad) (lcp:=lcp) (L:=L) hbM (by rw[←hs5];exact x6) (by omega) (by omega)
  (fun V hV=>hm.below (hbw.trans hV)) (fun V hV=>hl.below moveE_keep (hbw.trans hV)) (by omega) (by omega) hg hfr (by omega))
 have H0:Hid (RnF w W6.heap.size W3.heap.size W1.heap.size W2.heap.size false 0 [] W6):=⟨hbw,Nat.le_refl _,⟨none,0,x4.keep hb46,World.ownsRow_nil _ _ _ _,x2.keep hb26⟩,x3.keep hb36,fun x hx=>by cases hx⟩
 have HSZ:Hid (w.heap.size≤W1.heap.size∧W2.heap.size=W1.heap.size+1∧W3.heap.size=W2.heap.size+1∧W4.heap.size=W3.heap.size+1∧W6.heap.size=W4.heap.size+2):=⟨hS,hs2,hs3,hs4,by omega⟩
 have HFR:=Lib.hid hfr
 have HST:=Lib.hid (statesQ W4 q M lad L.length lcp)
 have HLN:=Lib.hid hlen
 have hF:=HF.out
 unfold MdB at hF
 rw[h5,h6] at HST
 unfold mdC at h1 HST
 unfold stC at HSEQ
 unfold mdC
 obtain⟨c0,c1,c2,c3,c4,c5,c6,c7,c8,c9⟩:=hF W4 (hb2.trans ((hb3.trans (hb4.mono hb3.size)).mono hb2.size))
 clear hF hm hl hg hlen hb2 hb3 hb4 hb5 hb6 x2 x3 x4 x5 x6 hs2 hs3 hs4 hs5 hs6 hb46 hb36 hb26 hb16 hbw hS hfr hbM h5 h6 HM HF
 refine(callsIn_wide (n:=10)).1 (callsIn_of_wp_marks Tryz.func28 rfl trivial ?_ rfl)
 refine wpIn_wide.2 ?_
 refine wp_mono (Q:=noPanicQ (bodyPostM Fence.wide 10 Tryz.prog Tryz.f28 _)) ?_ (fun e a w h=>noPanicQ_of h)
 simp only[Tryz.ntmps28,List.size_toArray,List.length_cons,List.length_nil,Nat.reduceAdd,Nat.reduceSub,Array.replicate_succ,Array.replicate_zero,List.push_toArray,List.append_toArray,List.nil_append,List.cons_append]
 go_wp2_with fail
 refine HST.out.mono ?_
 rintro e w9 ⟨rfl,hw⟩
 rw[hw]
 clear hw w9 HST c0 c1 c2 c3 c4 c5 c6 c7 c8 c9
 go_wp2_with fail
 refine(wpIn_wide (n:=10)).1 ?_
 refine wpIn_rangeFunc_E rfl (by omega) (gf:=55) (lb:=#[.pointer (some ⟨W4.heap.size,0,none⟩),.pointer (some ⟨W4.heap.size+1,0,none⟩)]) rfl trivial (enters_of Tryz.func55 (by kernel_rfl) rfl) W3.heap.size HSEQ.out RnG.rn RnG.har (fun _=>rfl) (by have:=HSZ.out;omega) HFR.out
  (fun pre W=>RnF w W6.heap.size W3.heap.size W1.heap.size W2.heap.size false 0 pre W∧∀ y ∈ pre,y.2.2=0)
  (fun c pre W=>c=.ret∧∃ p x,pre=p ++ [x]∧x.2.2≠0∧(∀ y ∈ p,y.2.2=0)∧(p ++ [x]).map Prod.snd <+:seqS M L∧RnF w W6.heap.size W3.heap.size W1.heap.size W2.heap.size true x.2.2 p W)
  ?abi ?abx ?free ⟨H0.out,fun y hy=>by cases hy⟩
  (fun x W a=>∃ b,a= { tmps:=#[.agg #[.slice q.a0 M.attrs.length q.k0,.slice q.a1 M.inits.length q.k1,.slice q.a2 M.users.length q.k2,.slice q.a3 M.roles.length q.k3,.slice q.a4 M.stages.length q.k4,.slice q.a5 M.events.length q.k5,.slice q.a6 M.guards.length q.k6,.slice q.a7 M.miles.length q.k7,.slice q.a8 M.sods.length q.k8,.slice q.a9 M.order.length q.k9],.slice lad L.length lcp,.pointer (some ⟨w.heap.size,0,none⟩),undef,.pointer (some ⟨W1.heap.size,0,none⟩),.pointer (some ⟨W2.heap.size,0,none⟩),.pointer (some ⟨W3.heap.size,0,none⟩),.pointer (some ⟨b,0,none⟩),.int .i64 x.2.2,.agg #[.slice q.a0 M.attrs.length q.k0,.slice q.a1 M.inits.length q.k1,.slice q.a2 M.users.length q.k2,.slice q.a3 M.roles.length q.k3,.slice q.a4 M.stages.length q.k4,.slice q.a5 M.events.length q.k5,.slice q.a6 M.guards.length q.k6,.slice q.a7 M.miles.length q.k7,.slice q.a8 M.sods.length q.k8,.slice q.a9 M.order.length q.k9],.slice lad L.length lcp,.func (.func 55) #[] #[.pointer (some ⟨W4.heap.size,0,none⟩),.pointer (some ⟨W4.heap.size+1,0,none⟩)],.agg #[.slice x.1.a0 x.2.1.vals.length x.1.k0,.int .i64 x.2.1.opn,.int .i64 x.2.1.dne,.slice x.1.a3 x.2.1.did.length x.1.k3,.slice x.1.a4 x.2.1.cnt.length x.1.k4],.int .i64 x.2.2,undef,undef,undef,undef,undef,undef,undef,undef,undef],defers:=[] }∧Blk W b (stC x.1 x.2.1) 44∧W6.heap.size+2≤b) ?hA ?assign ?body ?done ?stop
 case abi=>
  rintro s A A' row ⟨h1,h2⟩ hg hr
  have:=HSZ.out
  exact⟨h1.abides (by omega) (by omega) (by omega) (by omega) hg hr,h2⟩
 case abx=>
  rintro c s A A' row ⟨rfl,p,x,rfl,h1,h2,h3,h4⟩ hg hr
  have:=HSZ.out
  exact⟨rfl,p,x,rfl,h1,h2,h3,h4.abides (by omega) (by omega) (by omega) (by omega) hg (fun r e=>⟨(hr r e).1,(hr r e).2.1,fun y hy=>(hr r e).2.2 y (List.mem_append_left _ hy)⟩)⟩
 case free=>
  rintro s A ⟨h1,-⟩
  exact h1.free
 case hA=>
  rintro x W a o ⟨b,rfl,hb,hn⟩
  exact⟨b,rfl,hb.putO (by omega) o,hn⟩
 case assign=>
  rintro l ⟨r,s,z⟩ W K hsz hK
  dsimp only
  gi_wp2
  exact hK _ _ ((Below.refl _ W).alloc (Nat.le_refl _) _) ⟨W.heap.size,rfl,Blk.new _ _ _,hsz⟩
 case body=>
  rintro l pre ⟨r,s,z⟩ a W hsz ⟨hI1,hI2⟩ hG ⟨b,rfl,hbk,hnb⟩
  dsimp only at hbk ⊢
  obtain⟨ad,cap,v1,v2,v3⟩:=hI1.v
  rw[if_neg (by simp)] at v3
  have HI:=Lib.hid hI1
  have HZ:=Lib.hid hI2
  have HG:=Lib.hid hG
  have HV:=Lib.hid (And.intro v1 v2)
  have co:=v1.cell (i:=0) rfl
  have HBK:=Lib.hid hbk
  unfold stC at hbk
  by_cases hz:z=0
  · subst hz
    have d0:=hbk.cell (i:=0) rfl
    have d1:=hbk.cell (i:=1) rfl
    have d2:=hbk.cell (i:=2) rfl
    have d3:=hbk.cell (i:=3) rfl
    have d4:=hbk.cell (i:=4) rfl
    obtain⟨i0,hi,hz0,hz1,hz2⟩:=info_parts info_state
    have hpl:pre.length+1≤1001:=by
     have h1:=hG.2.length_le
     have h2:=seqF_len M L (beginS M)
     have h3:=HLN.out
     simp only[List.length_map,List.length_append,List.length_cons,List.length_nil,seqS] at h1
     omega
    have hb1:pre.length+1≤maxLen:=by unfold maxLen;omega
    have hb2: (pre.length+1) * 88≤140737488355328:=by omega
    have hb3:W6.heap.size≤W.heap.size:=by omega
    clear hI1 hI2 hG v1 v2 v3 hbk hpl
    gi_wp2_with (gi_at_builtin;refine appendInE _ rfl _ _ 75 rfl W6.heap.size 44 i0 (.agg #[.slice none 0 0,.int .i64 0,.int .i64 0,.slice none 0 0,.slice none 0 0]) 5 88 Tryz.underlying75 hi hz0 hz1 hz2 rfl (by decide) _ _ _ rfl (HV.out.2.alloc _) ⟨W.heap.size,0,none⟩ 1 1 (stC r s).toList rfl rfl (cells_new _ _ _) (by simp[stC,Value.oneCell']) hb1 hb2 (by simp;omega) ?_;intro v' w1 hown' hgrow hat;have hap:=HI.out.app (by have:=HSZ.out;omega) (by have:=HSZ.out;omega) (by have:=HSZ.out;omega) (by have:=HSZ.out;omega) (by have:=HSZ.out;omega) (by have:=HSZ.out;omega) (r,s,0) (HG.out.1.mono (fun k _ hk=>hk.2)) HV.out.1 HV.out.2 hown' hgrow hat;obtain⟨ad',cap',hv'⟩:=owns_len hown';subst hv';have HAP:=Lib.hid hap;have co1:=hap.2.2.cell (i:=0) rfl;have fo1:=hap.2.2.free 0;clear hap hown' hgrow hat)
    exact⟨HAP.out.2.1,HAP.out.1,fun y hy=>by
     rcases List.mem_append.1 hy with h|h
     · exact HZ.out y h
     · rw[List.mem_singleton.1 h]⟩
  · have hb: (z !=0)=true:=by simp[hz]
    have c4:=v3.cell (i:=0) rfl
    have f4:=v3.free 0
    have c5:=hI1.r5.cell (i:=0) rfl
    have f5:=hI1.r5.free 0
    have c5':=(hI1.r5.other (g:=W1.heap.size) (j:=0) (by have:=HSZ.out;omega) (.slice ad pre.length cap)).cell (i:=0) rfl
    have f5':=(hI1.r5.other (g:=W1.heap.size) (j:=0) (by have:=HSZ.out;omega) (.slice ad pre.length cap)).free 0
    have HNZ:=Lib.hid hz
    clear hI1 hI2 hG v1 v2 v3 hbk hz
    gi_wp2
    refine⟨?_,rfl,pre,(r,s,z),rfl,HNZ.out,HZ.out,HG.out.2,HI.out.set (by have:=HSZ.out;omega) (by have:=HSZ.out;omega) (by have:=HSZ.out;omega) (by have:=HSZ.out;omega) (by have:=HSZ.out;omega) (by have:=HSZ.out;omega) (by have:=HSZ.out;omega) HV.out.1 HV.out.2 z⟩
    exact((HarE.cell (by have:=HSZ.out;omega) (by have:=HSZ.out;omega) 0 _).trans (HarE.cell (by have:=HSZ.out;omega) (by have:=HSZ.out;omega) 0 _)).1
 case done=>
  rintro D xs W rfl hfD hS ⟨hI1,hI2⟩ hK
  obtain⟨ad,cap,v1,v2,v3⟩:=hI1.v
  rw[if_neg (by simp)] at v3
  have HE:Hid (allG M L= (xs.map (fun x=>x.2.1),0)):=by
   unfold Hid
   rw[seqS_all (M:=M) (l:=L) (by rw[←hS];intro y hy;obtain⟨x,hx,rfl⟩:=List.mem_map.1 hy;exact hI2 x hx),←hS,List.map_map]
   rfl
  have co:=v1.cell (i:=0) rfl
  have c4:=v3.cell (i:=0) rfl
  have f4:=v3.free 0
  have c5:=hI1.r5.cell (i:=0) rfl
  have f5:=hI1.r5.free 0
  have c5':=(hI1.r5.other (g:=W1.heap.size) (j:=0) (by have:=HSZ.out;omega) (.slice ad xs.length cap)).cell (i:=0) rfl
  have f5':=(hI1.r5.other (g:=W1.heap.size) (j:=0) (by have:=HSZ.out;omega) (.slice ad xs.length cap)).free 0
  have hX:=hI1.set (by have:=HSZ.out;omega) (by have:=HSZ.out;omega) (by have:=HSZ.out;omega) (by have:=HSZ.out;omega) (by have:=HSZ.out;omega) (by have:=HSZ.out;omega) (by have:=HSZ.out;omega) v1 v2 0
  have hfX:Free W3.heap.size _ W6.heap.size:=(hfD.cell (b:=W1.heap.size) (by have:=HSZ.out;omega) 0 (.slice ad xs.length cap)).cell (b:=W2.heap.size) (by have:=HSZ.out;omega) 0 (.int .i64 0)
  have HX:=Lib.hid (hX.put (by have:=HSZ.out;omega) (by have:=HSZ.out;omega) (by have:=HSZ.out;omega) (by have:=HSZ.out;omega) hfX (.deferred none))
  have HD:Hid (((W.setCell ⟨W1.heap.size,0,none⟩ (.slice ad xs.length cap)).setCell ⟨W2.heap.size,0,none⟩ (.int .i64 0)).heap[W6.heap.size]?=some (.deferred (some []))):=((Below.heap_setCell _ ⟨W2.heap.size,0,none⟩ _ _ (by have:=HSZ.out;show W6.heap.size≠W2.heap.size;omega)).trans (Below.heap_setCell _ ⟨W1.heap.size,0,none⟩ _ _ (by have:=HSZ.out;show W6.heap.size≠W1.heap.size;omega))).trans hK
  clear hI1 hI2 v1 v2 v3 hX hfX hK hfD
  go_wp2_with fail
  refine⟨by simp,.inl ⟨_,_,rfl,run_takeDeferred HD.out,?_⟩⟩
  obtain⟨v,hv,hrow⟩:=HX.out.row
  have e4:=hv.cell (i:=0) rfl
  have e5:=HX.out.r5.cell (i:=0) rfl
  refine⟨.tuple #[v,.int .i64 0],by simp[results,Tryz.results28,go_sem,e4,e5],⟨v,by rw[HE.out],by rw[HE.out];exact hrow.imp (stateE_mono (by have:=HSZ.out;omega) _)⟩,HX.out.low⟩
 case stop=>
  rintro D c pre W rfl hfD ⟨rfl,p,x,rfl,hz,hp,hpre,hF⟩ hK
  have HE:Hid (allG M L= (p.map (fun x=>x.2.1),x.2.2)):=by
   unfold Hid
   rw[List.map_append] at hpre
   rw[seqS_stop (M:=M) (l:=L) (p:=p.map Prod.snd) (z:=x.2.1) (e:=x.2.2) hz (by intro y hy;obtain⟨x,hx,rfl⟩:=List.mem_map.1 hy;exact hp x hx) hpre,List.map_map]
   rfl
  have HX:=Lib.hid (hF.put (by have:=HSZ.out;omega) (by have:=HSZ.out;omega) (by have:=HSZ.out;omega) (by have:=HSZ.out;omega) hfD (.deferred none))
  have HK:=Lib.hid hK
  clear hF hK hfD hp hpre hz
  gi_wp2
  refine⟨by simp,.inl ⟨_,_,rfl,run_takeDeferred HK.out,?_⟩⟩
  obtain⟨v,hv,hrow⟩:=HX.out.row
  have e4:=hv.cell (i:=0) rfl
  have e5:=HX.out.r5.cell (i:=0) rfl
  refine⟨.tuple #[v,.int .i64 x.2.2],by simp[results,Tryz.results28,go_sem,e4,e5],⟨v,by rw[HE.out],by rw[HE.out];exact hrow.imp (stateE_mono (by have:=HSZ.out;omega) _)⟩,HX.out.low⟩
end Go.Proofs.YtadjnfpomjopkaaGreat
namespace Go.Proofs.YtadjnfpomjopkaaGreat
open Go.RowKit
def lastS (M:Mdl) (L:List Mv):Sta:=((allG M L).1[(allG M L).1.length - 1]?).getD zeroS
theorem allG_len (M:Mdl) (L:List Mv): (allG M L).1.length≤L.length+1∧0 < (allG M L).1.length:=runG_len M L _
theorem stateAt {B:Nat} {w:World} {v:Value} {T:List Sta} (h:RowE (stateE B) 5 w v T) {i:Nat} {s:Sta} (hi:T[i]?=some s) :
 ∃ b off cap r,v=.slice (some ⟨b,off,none⟩) T.length cap∧b < w.heap.size∧(StQ w r s∧StA B r s)∧(w.cell? ⟨b,off+i * 5,none⟩ = some (.slice r.a0 s.vals.length r.k0)∧w.cell? ⟨b,off+i * 5+1,none⟩ = some (.int .i64 s.opn)∧w.cell? ⟨b,off+i * 5+2,none⟩ = some (.int .i64 s.dne)∧w.cell? ⟨b,off+i * 5+3,none⟩ = some (.slice r.a3 s.did.length r.k3)∧w.cell? ⟨b,off+i * 5+4,none⟩ = some (.slice r.a4 s.cnt.length r.k4)):=by
 obtain⟨b,off,cap,cs,hv,hb,hl,⟨r,rfl,hS⟩,hc⟩:=h.at hi
 exact⟨b,off,cap,r,hv,hb,hS,hc 0 _ rfl,hc 1 _ rfl,hc 2 _ rfl,hc 3 _ rfl,hc 4 _ rfl⟩
theorem last_results {V:World} {b:Nat} {a0 a1 a2 a3 a4:Value} {n z:Int} {tmps:Array Value} (hb:Blk V b #[a0,a1,a2,a3,a4] 44) (h4:tmps[4]?=some (.pointer (some ⟨b,0,none⟩))) (h5:tmps[5]?=some (.int .i64 n)) (h6:tmps[6]?=some (.int .i64 z)) :
 (results Tryz.f18 tmps).run Tryz.prog V=.ok (.tuple #[.agg #[a0,a1,a2,a3,a4],.int .i64 n,.int .i64 z]) V:=by
 have e0:=hb.cell (i:=0) rfl
 have e1:=hb.cell (i:=1) rfl
 have e2:=hb.cell (i:=2) rfl
 have e3:=hb.cell (i:=3) rfl
 have e4:=hb.cell (i:=4) rfl
 simp[results,Tryz.results18,go_sem,e0,e1,e2,e3,e4,h4,h5,h6]
set_option maxRecDepth 100000 in
set_option maxHeartbeats 4000000 in
theorem lastQ {w:World} {q:Mem} {M:Mdl} (hm:MdQ w q M) {lad:Option Addr} {lcp:Nat} {L:List Mv} (hl:RowE moveE 3 w (.slice lad L.length lcp) L) (hg:GoodD M) (hlen:L.length≤1000) :
 Calls Tryz.prog 18 #[.agg (mdC q M),.slice lad L.length lcp] w fun e w'=>(∃ r,e=.returned (.tuple #[.agg (stC r (lastS M L)),.int .i64 (((allG M L).1.length:Int) - 1),.int .i64 (allG M L).2])∧StQ w' r (lastS M L)∧StA w.heap.size r (lastS M L))∧Below w.heap.size w w':=by
 obtain⟨W1,h1,HB1,HM,HF⟩:=boxM hm
 obtain⟨W2,h2,hb2,x2⟩:=box1 W1 #[.slice none 0 0,.int .i64 0,.int .i64 0,.slice none 0 0,.slice none 0 0] 44
 have HX:=Lib.hid x2
 have HB2:=Lib.hid (HB1.out.trans (hb2.mono HB1.out.size))
 have HAL:=Lib.hid (allQ (HM.out.below hb2) (hl.below moveE_keep HB2.out) hg hlen)
 have HS1:=Lib.hid HB1.out.size
 have hs12:W2.heap.size=W1.heap.size+1:=by rw[←h2];simp
 have HS12:=Lib.hid hs12
 obtain⟨hn1,hn0⟩:=allG_len M L
 obtain⟨T,hT⟩:∃ T,allG M L=T:=⟨_,rfl⟩
 rw[hT] at hn1 hn0
 obtain⟨n,hn⟩:∃ n,T.1.length=n+1:=⟨T.1.length - 1,by omega⟩
 obtain⟨s,hs⟩:∃ s,T.1[n]?=some s:=⟨_,List.getElem?_eq_getElem (by omega)⟩
 have HLS:Hid (lastS M L=s):=by unfold Hid lastS;rw[hT,hn,Nat.add_sub_cancel,hs];rfl
 have hF:=HF.out _ hb2
 unfold MdB at hF
 obtain⟨c0,c1,c2,c3,c4,c5,c6,c7,c8,c9⟩:=hF
 rw[HLS.out]
 rw[hT] at HAL ⊢
 unfold mdC at h1 HAL ⊢
 obtain⟨N,hN⟩:∃ N,T.1.length=N:=⟨_,rfl⟩
 have HN:=Lib.hid (And.intro hN hn)
 have HSI:=Lib.hid hs
 have hw2:IntKind.i64.wrap ((N:Int) - 1)= (n:Int):=by rw[show(N:Int) - 1= (n:Int) by omega];exact IntWalk.i64_in _ ⟨by omega,by omega⟩
 have hw1:wrap64 ((N:Int) - 1)= (n:Int):=by unfold wrap64;omega
 have hnN: (n:Int) < (N:Int):=by omega
 have hn0': (0:Int)≤(n:Int):=Int.natCast_nonneg _
 have HNN:Hid ((n:Int)= ((T.1.length:Int) - 1)):=by unfold Hid;omega
 rw[←HNN.out]
 clear hs12 hm hl hg hlen hb2 x2 hn1 hn0 hT hn hs hN HF
 go_enter Tryz.func18,Tryz.ntmps18
 go_wp2_with fail
 refine HAL.out.mono ?_
 rintro e3 W3 ⟨⟨v,rfl,hrow⟩,hb3⟩
 obtain⟨b,off,cap,r,rfl,hbl,hS,a0,a1,a2,a3,a4⟩:=stateAt hrow HSI.out
 have HSS:=Lib.hid hS
 have HX3:=Lib.hid (HX.out.keep hb3)
 have HB3:=Lib.hid (HB2.out.trans (hb3.mono HB2.out.size))
 rw[HN.out.1]
 have HRW:=Lib.hid hrow
 have u0:=HX3.out.cell (i:=0) rfl
 have t0:=HX3.out.free 0
 have u1:=HX3.out.cell (i:=1) rfl
 have t1:=HX3.out.free 1
 have u2:=HX3.out.cell (i:=2) rfl
 have t2:=HX3.out.free 2
 have u3:=HX3.out.cell (i:=3) rfl
 have t3:=HX3.out.free 3
 have u4:=HX3.out.cell (i:=4) rfl
 have t4:=HX3.out.free 4
 have hlt:W1.heap.size < W3.heap.size:=HX3.out.lt
 clear c0 c1 c2 c3 c4 c5 c6 c7 c8 c9 hb3 hS hrow hbl
 go_wp2
 have hp:=HX3.out.put5 (.slice r.a0 s.vals.length r.k0) (.int .i64 s.opn) (.int .i64 s.dne) (.slice r.a3 s.did.length r.k3) (.slice r.a4 s.cnt.length r.k4)
 refine bodyPost_ret (v:=.tuple #[.agg #[.slice r.a0 s.vals.length r.k0,.int .i64 s.opn,.int .i64 s.dne,.slice r.a3 s.did.length r.k3,.slice r.a4 s.cnt.length r.k4],.int .i64 (n:Int),.int .i64 T.2]) (last_results hp rfl rfl rfl) rfl ?_
 have hbx:=below_put5 (B:=w.heap.size) HB3.out HS1.out (.slice r.a0 s.vals.length r.k0) (.int .i64 s.opn) (.int .i64 s.dne) (.slice r.a3 s.did.length r.k3) (.slice r.a4 s.cnt.length r.k4)
 have hT:=(Turned.refl HX3.out).put5 (.slice r.a0 s.vals.length r.k0) (.int .i64 s.opn) (.int .i64 s.dne) (.slice r.a3 s.did.length r.k3) (.slice r.a4 s.cnt.length r.k4)
 exact⟨⟨r,rfl,HSS.out.1.turn HSS.out.2 hT (by have:=HS12.out;omega),HSS.out.2.mono (by have:=HS12.out;have:=HS1.out;omega)⟩,hbx⟩
end Go.Proofs.YtadjnfpomjopkaaGreat
