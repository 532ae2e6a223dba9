import Derived.Test.YtkkoooagamadjaaGreatDoorPk40
import Derived.Test.YtkkoooagamadjaaGreatDoorPk22
namespace Go.Proofs.YtkkoooagamadjaaGreatDoor
open Go.RowKit Go.Shelf
set_option maxRecDepth 100000 in
set_option maxHeartbeats 4000000 in
theorem rclass_any {W:World} {v1 v2 vv cv:Value} {cl:List (Int × Int)} {gl:List Int} (a:Int) {vals consts:List Int} (hz:ZoneIn W v1 v2 cl gl) (hvv:RdK W 1 vv vals.length (ints vals)) (hcv:Reads W cv (ints consts)) (hok:∀ c ∈ cl,ClsOK c) (hc:consts.length≤12) (hv:vals.length≤1000) (i:Nat) (hi:i < cl.length) (hcl:cl.length≤1000) :
 Calls Tryz.prog 102 #[.agg #[v1,v2],.int .i64 i,.int .i64 a,vv,cv] W fun e w'=>e=.returned (numV (numC cl i a vals (sortS consts)))∧Below W.heap.size W w':=by
 obtain⟨x,hx⟩:∃ x,cl[i]?=some x:=⟨_,List.getElem?_eq_getElem hi⟩
 obtain⟨s,k⟩:=x
 obtain⟨⟨hsk0,hsk1⟩,-⟩:=hok (s,k) (List.mem_of_getElem? hx)
 dsimp only at hsk0 hsk1
 clear hok
 have hg:cl.getD i (0,-1)= (s,k):=by rw[List.getD_eq_getElem?_getD,hx];rfl
 obtain⟨ad1,k1,rfl⟩:=hz.1.len
 obtain⟨ad2,k2,rfl⟩:=hvv.len
 obtain⟨ad4,k4,rfl⟩:=hz.2.len
 obtain⟨n,hn⟩:∃ n,cl.length=n:=⟨_,rfl⟩
 obtain⟨m,hm⟩:∃ m,vals.length=m:=⟨_,rfl⟩
 obtain⟨g',hg'⟩:∃ m,gl.length=m:=⟨_,rfl⟩
 have hz1:=hz.1
 rw[hn] at hz1 hi hcl ⊢
 rw[hm] at hvv hv ⊢
 rw[hg']
 obtain⟨b,off,rfl,hbl,d0,d1⟩:=hz1.cls hx (by omega)
 obtain⟨W0,hW0⟩:∃ W1,W.alloc (.cells #[.slice (some ⟨b,off,none⟩) n k1,.slice ad4 g' k4] 28)=W1:=⟨_,rfl⟩
 have hb0:Below W.heap.size W W0:=by rw[←hW0];exact(Below.refl _ _).alloc (Nat.le_refl _) _
 have x0:Blk W0 W.heap.size #[.slice (some ⟨b,off,none⟩) n k1,.slice ad4 g' k4] 28:=by rw[←hW0];exact Blk.new _ _ _
 have c0:=x0.two.1
 have d0:W0.cell? ⟨b,off+i * 2,none⟩ = some (.int .i64 s):=(hb0.cell (p:=⟨b,off+i * 2,none⟩) hbl).trans d0
 have d1:W0.cell? ⟨b,off+i * 2+1,none⟩ = some (.int .i64 k):=(hb0.cell (p:=⟨b,off+i * 2+1,none⟩) hbl).trans d1
 obtain⟨W1,hW1⟩:∃ W1,W0.alloc (.cells #[.int .i64 s,.int .i64 k] 47)=W1:=⟨_,rfl⟩
 have hb1:Below W0.heap.size W0 W1:=by rw[←hW1];exact(Below.refl _ _).alloc (Nat.le_refl _) _
 have x1:Blk W1 W0.heap.size #[.int .i64 s,.int .i64 k] 47:=by rw[←hW1];exact Blk.new _ _ _
 have hb01:=hb0.trans (hb1.mono hb0.size)
 have hi0: (i:Int) < (n:Int):=by omega
 have HB1:=Lib.hid hb01
 have HX1:=Lib.hid x1
 have HVV:=Lib.hid hvv
 have HSO:=Lib.hid (rsorted_any cv consts W1 (hcv.below (Nat.le_refl _) hb01) (by omega))
 have HG:=Lib.hid hg
 have HM:=Lib.hid hm
 clear hz hz1 hvv hcv hb1 hb0 hb01 x0 x1 hx hg hn hm hbl hg'
 go_enter Tryz.func102,Tryz.ntmps102
 go_wp2_with fail
 clear c0 d0 d1 hW1 hW0
 refine HSO.out.mono ?_
 rintro e w2 ⟨v',rfl,hown,hb2⟩
 obtain⟨ad3,k3,rfl⟩:=owns_len hown
 obtain⟨L,hL⟩:∃ L,(sortS consts).length=L:=⟨_,rfl⟩
 have hL12:L≤12:=by have:=sortS_len consts;omega
 have x2:=HX1.out.keep hb2
 have g0:=x2.two.1;have g1:=x2.two.2
 have HX2:=Lib.hid x2
 have HB2:=Lib.hid (HB1.out.trans (hb2.mono HB1.out.size))
 rw[hL] at hown ⊢
 clear x2 hb2 HSO HX1
 by_cases hk:0≤k
 · obtain⟨q,rfl⟩:∃ q:Nat,k= (q:Int):=⟨k.toNat,by omega⟩
   have HU:Hid (numC cl i a vals (sortS consts)= (sortS consts)[q]?):=by
    unfold Hid numC
    rw[HG.out,if_pos (by omega),Int.toNat_natCast]
   by_cases hq:q < L
   · obtain⟨y,hy⟩:∃ y,(sortS consts)[q]?=some y:=⟨_,List.getElem?_eq_getElem (by rw[hL];exact hq)⟩
     have hq1: (q:Int) < (L:Int):=by omega
     obtain⟨bl,rfl,hcell⟩:∃ bl,ad3=some ⟨bl,0,none⟩∧w2.cell? ⟨bl,q,none⟩ = some (.int .i64 y):=by
      rcases hown.2 with⟨h0,h1⟩ | ⟨bl,cap',cur,h0,h1⟩
      · simp only[Value.slice.injEq] at h0;omega
      · simp only[Value.slice.injEq] at h0
        obtain⟨rfl,-,rfl⟩:=h0
        refine⟨bl,rfl,?_⟩
        have:=hown.cellAt q (by omega)
        rw[this]
        unfold ints
        rw[List.getElem?_map,hy];rfl
     have HV:Hid (numC cl i a vals (sortS consts)=some y):=by unfold Hid;rw[HU.out,hy]
     clear hown hy hL
     go_wp2_with fail
     go_ret2
     rw[HV.out]
     exact⟨rfl,HB2.out⟩
   · have hq1:¬(q:Int) < (L:Int):=by omega
     have HV:Hid (numC cl i a vals (sortS consts)=none):=by
      unfold Hid
      rw[HU.out]
      exact List.getElem?_eq_none (by omega)
     clear hown hL
     go_wp2_with fail
     go_ret2
     rw[HV.out]
     exact⟨rfl,HB2.out⟩
 · have hk2:k < 0:=by omega
   have HU:Hid (numC cl i a vals (sortS consts)= (othL s a).head?.bind fun b=>vals[b.toNat]?):=by
    unfold Hid numC
    rw[HG.out,if_neg (by omega)]
   clear hown hL
   go_wp2_with fail
   clear g0 g1
   go_loopw [14] (fun b' wr=>∃ t:Nat,t≤31∧b'=.int .i64 t∧Hid (Below w2.heap.size w2 wr)∧Hid (∀ j:Nat,j < t→(hasB s j && decide ((j:Int)≠a))=false)) (fun b' _=>31 - (intOf b').toNat)
   case atStart=>exact⟨0,by omega,rfl,Below.refl _ _,fun j h=>by omega⟩
   case round=>
    obtain⟨t,ht,rfl,HBR,HF⟩:=hrel
    have g0:=(HX2.out.keep HBR.out).two.1
    by_cases hlt:t < 31
    · have hlt1: (t:Int) < 31:=by omega
      have HHA:=Lib.hid (rhas_any s t wr hsk0 hsk1)
      by_cases hta: (t:Int)=a
      · have HF2:Hid (∀ j:Nat,j < t+1→(hasB s j && decide ((j:Int)≠a))=false):=by
         intro j hj
         by_cases hjt:j=t
         · rw[hjt];simp[hta]
         · exact HF.out j (by omega)
        go_wp2_with fail
        go_roundw
        case rel=>exact⟨t+1,by omega,by go_num,HBR,HF2⟩
        case measure=>simp[intOf];omega
      · have htb: ((t:Int) !=a)=true:=by simp[hta]
        obtain⟨q,hq⟩:∃ q,hasB s t=q:=⟨_,rfl⟩
        rw[hq] at HHA
        have HQ:=Lib.hid hq
        clear hq
        go_wp2_with fail
        refine HHA.out.mono ?_
        rintro e w5 ⟨rfl,rfl⟩
        cases q
        · have HF2:Hid (∀ j:Nat,j < t+1→(hasB s j && decide ((j:Int)≠a))=false):=by
           intro j hj
           by_cases hjt:j=t
           · rw[hjt,HQ.out];rfl
           · exact HF.out j (by omega)
          go_wp2_with fail
          go_roundw
          case rel=>exact⟨t+1,by omega,by go_num,HBR,HF2⟩
          case measure=>simp[intOf];omega
        · have HV:Hid (numC cl i a vals (sortS consts)=vals[t]?):=by
           unfold Hid
           rw[HU.out,oth_first s a t hlt hta HQ.out HF.out]
           show vals[(t:Int).toNat]?=_
           rw[Int.toNat_natCast]
          have HBX:=Lib.hid (HB2.out.trans (HBR.out.mono HB2.out.size))
          by_cases htm:t < m
          · have htm1: (t:Int) < (m:Int):=by omega
            obtain⟨u,hu⟩:∃ u,vals[t]?=some u:=⟨_,List.getElem?_eq_getElem (by rw[HM.out];exact htm)⟩
            obtain⟨b7,o7,rfl,hb7,hc7⟩:=(HVV.out.below HBX.out).at (by omega)
            have f1:wr.cell? ⟨b7,o7+t,none⟩ = some (.int .i64 u):=hc7 t _ (by unfold ints;rw[List.getElem?_map,hu];rfl)
            have HW:Hid (numC cl i a vals (sortS consts)=some u):=by unfold Hid;rw[HV.out,hu]
            clear hc7 hu hb7
            go_wp2_with fail
            go_ret2
            rw[HW.out]
            exact⟨rfl,HBX.out⟩
          · have htm1:¬(t:Int) < (m:Int):=by omega
            have HW:Hid (numC cl i a vals (sortS consts)=none):=by
             unfold Hid;rw[HV.out]
             exact List.getElem?_eq_none (by rw[HM.out];omega)
            go_wp2_with fail
            go_ret2
            rw[HW.out]
            exact⟨rfl,HBX.out⟩
    · obtain rfl:t=31:=by omega
      have HW:Hid (numC cl i a vals (sortS consts)=none):=by
       unfold Hid
       rw[HU.out,oth_none s a HF.out];rfl
      have HBX:=Lib.hid (HB2.out.trans (HBR.out.mono HB2.out.size))
      go_wp2_with fail
      go_ret2
      rw[HW.out]
      exact⟨rfl,HBX.out⟩
def aloneC (s k a:Int):Bool:=!(decide (0≤k) || !(othL s a).isEmpty)
set_option maxRecDepth 100000 in
set_option maxHeartbeats 4000000 in
theorem ralone_any {W:World} (s k a:Int) (hsk:In64 s) :
 Calls Tryz.prog 73 #[.agg #[.int .i64 s,.int .i64 k],.int .i64 a] W fun e w'=>e=.returned (.bool (aloneC s k a))∧Below W.heap.size W w':=by
 obtain⟨hsk0,hsk1⟩:=hsk
 obtain⟨W1,hW1⟩:∃ W1,W.alloc (.cells #[.int .i64 s,.int .i64 k] 47)=W1:=⟨_,rfl⟩
 have hb1:Below W.heap.size W W1:=by rw[←hW1];exact(Below.refl _ _).alloc (Nat.le_refl _) _
 have x1:Blk W1 W.heap.size #[.int .i64 s,.int .i64 k] 47:=by rw[←hW1];exact Blk.new _ _ _
 have HB1:=Lib.hid hb1;have HX1:=Lib.hid x1
 clear hb1 x1
 go_enter Tryz.func73,Tryz.ntmps73
 go_wp2_with fail
 clear hW1
 go_loopw [5] (fun b' wr=>∃ t:Nat,t≤31∧b'=.int .i64 t∧Hid (Below W1.heap.size W1 wr)∧Hid (∀ j:Nat,j < t→(hasB s j && decide ((j:Int)≠a))=false)) (fun b' _=>31 - (intOf b').toNat)
 case atStart=>exact⟨0,by omega,rfl,Below.refl _ _,fun j h=>by omega⟩
 case round=>
  obtain⟨t,ht,rfl,HBR,HF⟩:=hrel
  have g0:=(HX1.out.keep HBR.out).two.1
  have g1:=(HX1.out.keep HBR.out).two.2
  by_cases hlt:t < 31
  · have hlt1: (t:Int) < 31:=by omega
    have HHA:=Lib.hid (rhas_any s t wr hsk0 hsk1)
    by_cases hta: (t:Int)=a
    · have HF2:Hid (∀ j:Nat,j < t+1→(hasB s j && decide ((j:Int)≠a))=false):=by
       intro j hj
       by_cases hjt:j=t
       · rw[hjt];simp[hta]
       · exact HF.out j (by omega)
      go_wp2_with fail
      go_roundw
      case rel=>exact⟨t+1,by omega,by go_num,HBR,HF2⟩
      case measure=>simp[intOf];omega
    · have htb: ((t:Int) !=a)=true:=by simp[hta]
      obtain⟨q,hq⟩:∃ q,hasB s t=q:=⟨_,rfl⟩
      rw[hq] at HHA
      have HQ:=Lib.hid hq
      clear hq
      go_wp2_with fail
      refine HHA.out.mono ?_
      rintro e w5 ⟨rfl,rfl⟩
      cases q
      · have HF2:Hid (∀ j:Nat,j < t+1→(hasB s j && decide ((j:Int)≠a))=false):=by
         intro j hj
         by_cases hjt:j=t
         · rw[hjt,HQ.out];rfl
         · exact HF.out j (by omega)
        go_wp2_with fail
        go_roundw
        case rel=>exact⟨t+1,by omega,by go_num,HBR,HF2⟩
        case measure=>simp[intOf];omega
      · have HV:Hid (aloneC s k a=false):=by
         have hm: (t:Int) ∈ othL s a:=(oth_mem s a t).2 ⟨by omega,by omega,hta,HQ.out⟩
         unfold Hid aloneC
         cases hl:othL s a with
         | nil=>rw[hl] at hm;cases hm
         | cons y u=>simp
        have HBX:=Lib.hid (HB1.out.trans (HBR.out.mono HB1.out.size))
        go_wp2_with fail
        go_ret
        rw[HV.out]
        exact⟨rfl,HBX.out⟩
  · obtain rfl:t=31:=by omega
    have HBX:=Lib.hid (HB1.out.trans (HBR.out.mono HB1.out.size))
    have HN:=Lib.hid (oth_none s a HF.out)
    by_cases hk:k < 0
    · have HV:Hid (aloneC s k a=true):=by unfold Hid aloneC;rw[HN.out];simp;omega
      go_wp2_with fail
      go_ret
      rw[HV.out]
      exact⟨rfl,HBX.out⟩
    · have HV:Hid (aloneC s k a=false):=by unfold Hid aloneC;rw[HN.out];simp;omega
      go_wp2_with fail
      go_ret
      rw[HV.out]
      exact⟨rfl,HBX.out⟩
set_option maxRecDepth 100000 in
set_option maxHeartbeats 2000000 in
theorem rfrom_any {W:World} {v1 v2 vv cv:Value} {cl:List (Int × Int)} {gl:List Int} (a:Int) {vals consts:List Int} (hz:ZoneIn W v1 v2 cl gl) (hvv:RdK W 1 vv vals.length (ints vals)) (hcv:Reads W cv (ints consts)) (hok:∀ c ∈ cl,ClsOK c) (hc:consts.length≤12) (hv:vals.length≤1000) (i:Nat) (hi:i < cl.length) (hcl:cl.length≤1000)
 (hI:∀ x ∈ vals ++consts,In64 x) (d:Int) (hd:In64 d) :
 Calls Tryz.prog 74 #[.agg #[v1,v2],.int .i64 i,.int .i64 a,.int .i64 d,vv,cv] W fun e w'=>e=.returned (besV (besN (numC cl i a vals (sortS consts)) d))∧Below W.heap.size W w':=by
 obtain⟨ad1,k1,e1⟩:=hz.1.len
 obtain⟨ad2,k2,e2⟩:=hz.2.len
 obtain⟨ad3,k3,e3⟩:=hvv.len
 obtain⟨ad4,k4,e4,-⟩:=hcv.len
 subst e1;subst e2;subst e3;subst e4
 obtain⟨W1,hW1⟩:∃ W1,W.alloc (.cells #[.slice ad1 cl.length k1,.slice ad2 gl.length k2] 28)=W1:=⟨_,rfl⟩
 have hb1:Below W.heap.size W W1:=by rw[←hW1];exact(Below.refl _ _).alloc (Nat.le_refl _) _
 have x1:Blk W1 W.heap.size #[.slice ad1 cl.length k1,.slice ad2 gl.length k2] 28:=by rw[←hW1];exact Blk.new _ _ _
 have c0:=x1.two.1;have c1:=x1.two.2
 have HCL:=Lib.hid (rclass_any a (hz.below hb1) (hvv.below hb1) (hcv.below (Nat.le_refl _) hb1) hok hc hv i hi hcl)
 have hin:∀ y,numC cl i a vals (sortS consts)=some y→In64 y:=by
  intro y hy
  unfold numC at hy
  split at hy
  · exact hI y (List.mem_append_right _ (((sortS_ok consts).2 y).1 (List.mem_of_getElem? hy)))
  · cases hh: (othL (cl.getD i (0,-1)).1 a).head? with
    | none=>rw[hh] at hy;cases hy
    | some b=>rw[hh] at hy;exact hI y (List.mem_append_left _ (List.mem_of_getElem? hy))
 have HB1:=Lib.hid hb1
 obtain⟨n,hn⟩:∃ n,cl.length=n:=⟨_,rfl⟩
 obtain⟨m,hm⟩:∃ n,gl.length=n:=⟨_,rfl⟩
 obtain⟨p,hp⟩:∃ n,vals.length=n:=⟨_,rfl⟩
 obtain⟨q,hq⟩:∃ n,(ints consts).length=n:=⟨_,rfl⟩
 rw[hn,hm,hp,hq] at HCL
 rw[hn,hm] at hW1
 rw[hn] at c0
 rw[hm] at c1
 rw[hn,hm,hp,hq]
 clear hz hvv hcv hok hb1 x1 hI hn hm hp hq hi
 cases ho:numC cl i a vals (sortS consts) with
 | none=>
   rw[ho] at HCL
   have HU:Hid (besN none d= (0,12)):=rfl
   clear hin ho
   go_enter Tryz.func74,Tryz.ntmps74
   go_wp2_with fail
   clear c0 c1 hW1
   refine HCL.out.mono ?_
   rintro e w2 ⟨rfl,hb2⟩
   have HB2:=Lib.hid (HB1.out.trans (hb2.mono HB1.out.size))
   unfold numV
   clear hb2
   go_wp2_with fail
   go_ret2
   rw[HU.out]
   exact⟨rfl,HB2.out⟩
 | some y=>
   rw[ho] at HCL
   have HAD:=Lib.hid (fun w=>radd_any y d w (hin y ho) hd)
   clear hin ho
   by_cases hr:-9223372036854775808≤y+d∧y+d≤9223372036854775807
   · have HU:Hid (besN (some y) d= (y+d,0)):=by unfold Hid besN;dsimp only;rw[if_pos hr]
     have HS:Hid (sumV y d=.tuple #[.int .i64 (y+d),.bool true]):=by unfold Hid sumV;rw[if_pos hr]
     clear hr hd
     go_enter Tryz.func74,Tryz.ntmps74
     go_wp2_with fail
     clear c0 c1 hW1
     refine HCL.out.mono ?_
     rintro e w2 ⟨rfl,hb2⟩
     have HB2:=Lib.hid (HB1.out.trans (hb2.mono HB1.out.size))
     unfold numV
     clear hb2
     go_wp2_with fail
     refine(HAD.out _).mono ?_
     rintro e w3 ⟨rfl,rfl⟩
     rw[HS.out]
     go_wp2_with fail
     go_ret2
     rw[HU.out]
     exact⟨rfl,HB2.out⟩
   · have HU:Hid (besN (some y) d= (0,14)):=by unfold Hid besN;dsimp only;rw[if_neg hr]
     have HS:Hid (sumV y d=.tuple #[.int .i64 0,.bool false]):=by unfold Hid sumV;rw[if_neg hr]
     clear hr hd
     go_enter Tryz.func74,Tryz.ntmps74
     go_wp2_with fail
     clear c0 c1 hW1
     refine HCL.out.mono ?_
     rintro e w2 ⟨rfl,hb2⟩
     have HB2:=Lib.hid (HB1.out.trans (hb2.mono HB1.out.size))
     unfold numV
     clear hb2
     go_wp2_with fail
     refine(HAD.out _).mono ?_
     rintro e w3 ⟨rfl,rfl⟩
     rw[HS.out]
     go_wp2_with fail
     go_ret2
     rw[HU.out]
     exact⟨rfl,HB2.out⟩
end Go.Proofs.YtkkoooagamadjaaGreatDoor
