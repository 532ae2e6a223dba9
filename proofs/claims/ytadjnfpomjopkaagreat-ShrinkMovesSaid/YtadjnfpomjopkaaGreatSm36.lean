import Derived.Test.YtadjnfpomjopkaaGreatSm05
import Derived.Test.YtadjnfpomjopkaaGreatSm35
import Derived.Test.YtadjnfpomjopkaaGreatSm23
namespace Go.Proofs.YtadjnfpomjopkaaGreat
open Go.RowKit
theorem take_next {α:Type} {a b:List α} {k:Nat} {x:α} (h:a.take k=b.take k) (ha:a[k]?=some x) (hb:b[k]?=some x):a.take (k+1)=b.take (k+1):=by
 rw[List.take_add_one,List.take_add_one,h,ha,hb]
theorem take_ne {α:Type} {a b:List α} {k:Nat} {x y:α} (ha:a[k]?=some x) (hb:b[k]?=some y) (h:x≠y):a≠b:=by
 rintro rfl;rw[ha] at hb;exact h (Option.some.inj hb)
set_option maxRecDepth 100000 in
set_option maxHeartbeats 2000000 in
theorem rsame3Q {w:World} {a b:List Int} {ad bd:Option Addr} {ac bc:Nat} (ha:RowE intE 1 w (.slice ad a.length ac) a) (hb:RowE intE 1 w (.slice bd b.length bc) b) :
 Calls Tryz.prog 22 #[.slice ad a.length ac,.slice bd b.length bc] w (Ret w (.bool (decide (a=b)))):=by
 have hax:=ha.max
 obtain⟨R,hR⟩:∃ R,decide (a=b)=R:=⟨_,rfl⟩
 have HR:=Lib.hid hR
 rw[hR]
 have HA:=Lib.hid ha
 have HB:=Lib.hid hb
 clear ha hb hR
 by_cases hl:a.length=b.length
 · have HL:=Lib.hid hl
   rw[←hl]
   clear hl
   go_enter Tryz.func22,Tryz.ntmps22
   go_wp2
   go_loopw [5] (fun i wr=>∃ k:Nat,i=.int .i64 (k:Int)∧k≤a.length∧Hid (Below w.heap.size w wr)∧Hid (a.take k=b.take k)) (fun i _=>a.length - (intOf i).toNat)
   case atStart=>exact⟨0,rfl,Nat.zero_le _,Below.refl _ _,rfl⟩
   case round=>
    obtain⟨k,rfl,hk,HBR,HT⟩:=hrel
    rcases Nat.lt_or_ge k a.length with hlt|hge
    · have hkz:=ltI hlt
      obtain⟨x,hx⟩:∃ x,a[k]?=some x:=⟨_,List.getElem?_eq_getElem hlt⟩
      obtain⟨y,hy⟩:∃ y,b[k]?=some y:=⟨_,List.getElem?_eq_getElem (by rw[←HL.out];exact hlt)⟩
      obtain⟨g1,o1,cp1,hv1,hl1,f1⟩:=(HA.out.below intE_keep HBR.out).int hx
      obtain⟨g2,o2,cp2,hv2,hl2,f2⟩:=(HB.out.below intE_keep HBR.out).int hy
      simp only[Value.slice.injEq] at hv1 hv2
      have hd1:=hv1.1
      have hd2:=hv2.1
      by_cases e:x=y
      · subst e
        have HN:=Lib.hid (take_next HT.out hx hy)
        have be: (x !=x)=false:=by simp
        clear hx hy hv1 hv2 hl1 hl2
        go_upto_region 6 with fail
        go_quiet (fail)
        go_wp2
        (try rw[←hd1])
        (try rw[←hd2])
        go_roundw
        case rel=>exact⟨k+1,by go_num,hlt,below_drewN HBR.out _,HN.out⟩
        case measure=>simp[intOf];omega
      · have HN:Hid (R=false):=by unfold Hid;rw[←HR.out];exact decide_eq_false (take_ne hx hy e)
        have be: (x !=y)=true:=by simp[e]
        clear hx hy hv1 hv2 hl1 hl2 e
        go_upto_region 6 with fail
        go_quiet (fail)
        go_wp2
        go_ret
        exact⟨ret_bool HN.out.symm,below_drewN HBR.out _⟩
    · have hkn:k=a.length:=by omega
      have HN:Hid (R=true):=by
       unfold Hid;rw[←HR.out]
       have h:=HT.out
       rw[hkn,List.take_length,HL.out,List.take_length] at h
       exact decide_eq_true h
      have hge':=nltI (Nat.not_lt.2 hge)
      clear hkn
      go_wp2
      go_ret
      exact⟨ret_bool HN.out.symm,HBR.out⟩
 · have HN:Hid (R=false):=by unfold Hid;rw[←HR.out];exact decide_eq_false (fun e=>hl (by rw[e]))
   have be: ((a.length:Int) != (b.length:Int))=true:=by simp;omega
   clear hl
   go_enter Tryz.func22,Tryz.ntmps22
   go_wp2
   go_ret
   exact⟨ret_bool HN.out.symm,Below.refl _ _⟩
def sameG:List Mv→List Mv→Bool
 | [],[]=>true
 | a :: l,b :: r=>mvB a b && sameG l r
 | _,_=>false
theorem sameG_iff:∀ {a b:List Mv},sameG a b=true ↔ a=b
 | [],[]=>by simp[sameG]
 | [],_ :: _=>by simp[sameG]
 | _ :: _,[]=>by simp[sameG]
 | x :: l,y :: r=>by rw[sameG,Bool.and_eq_true,mvB_iff,sameG_iff];simp
theorem sameG_no {a b:List Mv} (h:a≠b):sameG a b=false:=by
 cases e:sameG a b
 · rfl
 · exact absurd (sameG_iff.1 e) h
set_option maxRecDepth 100000 in
set_option maxHeartbeats 4000000 in
theorem rsame19Q {w:World} {a b:List Mv} {ad bd:Option Addr} {ac bc:Nat} (ha:RowE moveE 3 w (.slice ad a.length ac) a) (hb:RowE moveE 3 w (.slice bd b.length bc) b) :
 Calls Tryz.prog 10 #[.slice ad a.length ac,.slice bd b.length bc] w (Ret w (.bool (sameG a b))):=by
 have hax:=ha.max
 obtain⟨R,hR⟩:∃ R,sameG a b=R:=⟨_,rfl⟩
 have HR:=Lib.hid hR
 rw[hR]
 have HA:=Lib.hid ha
 have HB:=Lib.hid hb
 clear ha hb hR
 by_cases hl:a.length=b.length
 · have HL:=Lib.hid hl
   rw[←hl]
   clear hl
   go_enter Tryz.func10,Tryz.ntmps10
   go_wp2
   go_loopw [5] (fun i wr=>∃ k:Nat,i=.int .i64 (k:Int)∧k≤a.length∧Hid (Below w.heap.size w wr)∧Hid (a.take k=b.take k)) (fun i _=>a.length - (intOf i).toNat)
   case atStart=>exact⟨0,rfl,Nat.zero_le _,Below.refl _ _,rfl⟩
   case round=>
    obtain⟨k,rfl,hk,HBR,HT⟩:=hrel
    rcases Nat.lt_or_ge k a.length with hlt|hge
    · have hkz:=ltI hlt
      obtain⟨x,hx⟩:∃ x,a[k]?=some x:=⟨_,List.getElem?_eq_getElem hlt⟩
      obtain⟨y,hy⟩:∃ y,b[k]?=some y:=⟨_,List.getElem?_eq_getElem (by rw[←HL.out];exact hlt)⟩
      obtain⟨g1,o1,cp1,ai1,ki1,hv1,hl1,hr1,f10,f11,f12⟩:=moveRow (HA.out.below moveE_keep HBR.out) hx
      obtain⟨g2,o2,cp2,ai2,ki2,hv2,hl2,hr2,f20,f21,f22⟩:=moveRow (HB.out.below moveE_keep HBR.out) hy
      simp only[Value.slice.injEq] at hv1 hv2
      have hd1:=hv1.1
      have hd2:=hv2.1
      have HSF:Hid (∀ V,Below wr.heap.size wr V→(V.cell? ⟨g1,o1+k * 3,none⟩ = some (.int .i64 x.event)∧V.cell? ⟨g1,o1+k * 3+1,none⟩ = some (.int .i64 x.user)∧V.cell? ⟨g1,o1+k * 3+2,none⟩ = some (.slice ai1 x.vals.length ki1))∧V.cell? ⟨g2,o2+k * 3,none⟩ = some (.int .i64 y.event)∧V.cell? ⟨g2,o2+k * 3+1,none⟩ = some (.int .i64 y.user)∧V.cell? ⟨g2,o2+k * 3+2,none⟩ = some (.slice ai2 y.vals.length ki2)):=fun V hV=>⟨⟨(hV.cell (p:=⟨g1,o1+k * 3,none⟩) hl1).trans f10,(hV.cell (p:=⟨g1,o1+k * 3+1,none⟩) hl1).trans f11,(hV.cell (p:=⟨g1,o1+k * 3+2,none⟩) hl1).trans f12⟩,(hV.cell (p:=⟨g2,o2+k * 3,none⟩) hl2).trans f20,(hV.cell (p:=⟨g2,o2+k * 3+1,none⟩) hl2).trans f21,(hV.cell (p:=⟨g2,o2+k * 3+2,none⟩) hl2).trans f22⟩
      have HSA:Hid (∀ V,Below wr.heap.size wr V→Calls Tryz.prog 22 #[.slice ai1 x.vals.length ki1,.slice ai2 y.vals.length ki2] V (Ret V (.bool (decide (x.vals=y.vals))))):=fun V hV=>rsame3Q (hr1.below intE_keep hV) (hr2.below intE_keep hV)
      have HNE:Hid (mvB x y=false→R=false):=fun h=>by rw[←HR.out];exact sameG_no (take_ne hx hy (fun e=>by rw[mvB_iff.2 e] at h;cases h))
      have HEQ:Hid (mvB x y=true→a.take (k+1)=b.take (k+1)):=fun h=>by have e:=mvB_iff.1 h;subst e;exact take_next HT.out hx hy
      clear hx hy hv1 hv2 hl1 hl2 hr1 hr2
      by_cases e1:x.event=y.event
      · have b1: (x.event !=y.event)=false:=by simp[e1]
        by_cases e2:x.user=y.user
        · have b2: (x.user !=y.user)=false:=by simp[e2]
          have HM:Hid (mvB x y=decide (x.vals=y.vals)):=by unfold Hid mvB;rw[decide_eq_true e1,decide_eq_true e2];rfl
          cases e3:decide (x.vals=y.vals)
          · rw[e3] at HSA
            have HN:Hid (R=false):=HNE.out (by rw[HM.out,e3])
            clear e1 e2 e3
            go_upto_region 6 with fail
            clear f10 f11 f12 f20 f21 f22
            have hbz:Below wr.heap.size wr wr.drew:=(Below.refl _ _).drew
            refine startH (S:=fun V=>(V.cell? ⟨g1,o1+k * 3,none⟩ = some (.int .i64 x.event)∧V.cell? ⟨g1,o1+k * 3+1,none⟩ = some (.int .i64 x.user)∧V.cell? ⟨g1,o1+k * 3+2,none⟩ = some (.slice ai1 x.vals.length ki1))∧V.cell? ⟨g2,o2+k * 3,none⟩ = some (.int .i64 y.event)∧V.cell? ⟨g2,o2+k * 3+1,none⟩ = some (.int .i64 y.user)∧V.cell? ⟨g2,o2+k * 3+2,none⟩ = some (.slice ai2 y.vals.length ki2)) (by kernel_rfl) (HSF.out _ hbz) (fun hHeld=>?_)
            refine takesH [0,1,2,3,4,5,6,7,8,9,10,11,12,13,14,15,16,17,18,19,20,21,22,23,24,25,26,27,28,29,30,31,32,33,34] (by kernel_rfl) (fun _ _ d _ _ h=>by cases d <;> exact h) (by kernel_rfl) (by kernel_rfl) (by assumption) ?_
            repeat (first
             | (refine TakeSeq.cons (v:=?_) rfl (by rfl) ?_ ?_
                rotate_left
                · ((intro w hSw;go_simp) <;> (try with_reducible rfl))
                (try rw[b1])
                (try rw[b2])
                (try go_simp))
             | (refine TakeSeq.skip rfl (by rfl) ?_;(try go_simp)))
            refine TakeSeq.nil ?_
            refine callH 35 (by kernel_rfl) (by kernel_rfl) rfl (by rfl) ?_
            intro K hK
            go_simp
            go_at_call 22
            with_reducible refine(HSA.out _ hbz).mono ?_
            rintro e5 W5 ⟨rfl,hbn⟩
            have hbz:=hbz.trans (hbn.mono hbz.size)
            refine hK.out _ _ (HSF.out _ hbz) (fun hHeld=>?_)
            clear hK K hbn
            (try go_simp)
            refine takesH [36,37] (by kernel_rfl) (fun _ _ d _ _ h=>by cases d <;> exact h) (by kernel_rfl) (by kernel_rfl) (by assumption) ?_
            repeat (first
             | (refine TakeSeq.cons (v:=?_) rfl (by rfl) ?_ ?_
                rotate_left
                · ((intro w hSw;go_simp) <;> (try with_reducible rfl))
                (try rw[b1])
                (try rw[b2])
                (try go_simp))
             | (refine TakeSeq.skip rfl (by rfl) ?_;(try go_simp)))
            refine TakeSeq.nil ?_
            refine doneH (by kernel_rfl) ?_
            go_wp2
            go_ret
            exact⟨ret_bool HN.out.symm,HBR.out.trans (hbz.mono HBR.out.size)⟩
          · rw[e3] at HSA
            have HN:Hid (a.take (k+1)=b.take (k+1)):=HEQ.out (by rw[HM.out,e3])
            clear e1 e2 e3
            go_upto_region 6 with fail
            clear f10 f11 f12 f20 f21 f22
            have hbz:Below wr.heap.size wr wr.drew:=(Below.refl _ _).drew
            refine startH (S:=fun V=>(V.cell? ⟨g1,o1+k * 3,none⟩ = some (.int .i64 x.event)∧V.cell? ⟨g1,o1+k * 3+1,none⟩ = some (.int .i64 x.user)∧V.cell? ⟨g1,o1+k * 3+2,none⟩ = some (.slice ai1 x.vals.length ki1))∧V.cell? ⟨g2,o2+k * 3,none⟩ = some (.int .i64 y.event)∧V.cell? ⟨g2,o2+k * 3+1,none⟩ = some (.int .i64 y.user)∧V.cell? ⟨g2,o2+k * 3+2,none⟩ = some (.slice ai2 y.vals.length ki2)) (by kernel_rfl) (HSF.out _ hbz) (fun hHeld=>?_)
            refine takesH [0,1,2,3,4,5,6,7,8,9,10,11,12,13,14,15,16,17,18,19,20,21,22,23,24,25,26,27,28,29,30,31,32,33,34] (by kernel_rfl) (fun _ _ d _ _ h=>by cases d <;> exact h) (by kernel_rfl) (by kernel_rfl) (by assumption) ?_
            repeat (first
             | (refine TakeSeq.cons (v:=?_) rfl (by rfl) ?_ ?_
                rotate_left
                · ((intro w hSw;go_simp) <;> (try with_reducible rfl))
                (try rw[b1])
                (try rw[b2])
                (try go_simp))
             | (refine TakeSeq.skip rfl (by rfl) ?_;(try go_simp)))
            refine TakeSeq.nil ?_
            refine callH 35 (by kernel_rfl) (by kernel_rfl) rfl (by rfl) ?_
            intro K hK
            go_simp
            go_at_call 22
            with_reducible refine(HSA.out _ hbz).mono ?_
            rintro e5 W5 ⟨rfl,hbn⟩
            have hbz:=hbz.trans (hbn.mono hbz.size)
            refine hK.out _ _ (HSF.out _ hbz) (fun hHeld=>?_)
            clear hK K hbn
            (try go_simp)
            refine takesH [36,37] (by kernel_rfl) (fun _ _ d _ _ h=>by cases d <;> exact h) (by kernel_rfl) (by kernel_rfl) (by assumption) ?_
            repeat (first
             | (refine TakeSeq.cons (v:=?_) rfl (by rfl) ?_ ?_
                rotate_left
                · ((intro w hSw;go_simp) <;> (try with_reducible rfl))
                (try rw[b1])
                (try rw[b2])
                (try go_simp))
             | (refine TakeSeq.skip rfl (by rfl) ?_;(try go_simp)))
            refine TakeSeq.nil ?_
            refine doneH (by kernel_rfl) ?_
            go_wp2
            (try rw[←hd1])
            (try rw[←hd2])
            go_roundw
            case rel=>exact⟨k+1,by go_num,hlt,HBR.out.trans (hbz.mono HBR.out.size),HN.out⟩
            case measure=>simp[intOf];omega
        · have b2: (x.user !=y.user)=true:=by simp[e2]
          have HN:Hid (R=false):=HNE.out (by unfold mvB;rw[decide_eq_false e2];simp)
          clear e1 e2
          go_upto_region 6 with fail
          clear f10 f11 f12 f20 f21 f22
          have hbz:Below wr.heap.size wr wr.drew:=(Below.refl _ _).drew
          refine startH (S:=fun V=>(V.cell? ⟨g1,o1+k * 3,none⟩ = some (.int .i64 x.event)∧V.cell? ⟨g1,o1+k * 3+1,none⟩ = some (.int .i64 x.user)∧V.cell? ⟨g1,o1+k * 3+2,none⟩ = some (.slice ai1 x.vals.length ki1))∧V.cell? ⟨g2,o2+k * 3,none⟩ = some (.int .i64 y.event)∧V.cell? ⟨g2,o2+k * 3+1,none⟩ = some (.int .i64 y.user)∧V.cell? ⟨g2,o2+k * 3+2,none⟩ = some (.slice ai2 y.vals.length ki2)) (by kernel_rfl) (HSF.out _ hbz) (fun hHeld=>?_)
          refine takesH [0,1,2,3,4,5,6,7,8,9,10,11,12,13,14,15,16,17,18,19,20,21,22,23,24,25,26,27,28,29,30,31,32,33,34,35,36,37] (by kernel_rfl) (fun _ _ d _ _ h=>by cases d <;> exact h) (by kernel_rfl) (by kernel_rfl) (by assumption) ?_
          repeat (first
           | (refine TakeSeq.cons (v:=?_) rfl (by rfl) ?_ ?_
              rotate_left
              · ((intro w hSw;go_simp) <;> (try with_reducible rfl))
              (try rw[b1])
              (try rw[b2])
              (try go_simp))
           | (refine TakeSeq.skip rfl (by rfl) ?_;(try go_simp)))
          refine TakeSeq.nil ?_
          refine doneH (by kernel_rfl) ?_
          go_wp2
          go_ret
          exact⟨ret_bool HN.out.symm,HBR.out.trans (hbz.mono HBR.out.size)⟩
      · have b1: (x.event !=y.event)=true:=by simp[e1]
        have HN:Hid (R=false):=HNE.out (by unfold mvB;rw[decide_eq_false e1];simp)
        clear e1
        go_upto_region 6 with fail
        clear f10 f11 f12 f20 f21 f22
        have hbz:Below wr.heap.size wr wr.drew:=(Below.refl _ _).drew
        refine startH (S:=fun V=>(V.cell? ⟨g1,o1+k * 3,none⟩ = some (.int .i64 x.event)∧V.cell? ⟨g1,o1+k * 3+1,none⟩ = some (.int .i64 x.user)∧V.cell? ⟨g1,o1+k * 3+2,none⟩ = some (.slice ai1 x.vals.length ki1))∧V.cell? ⟨g2,o2+k * 3,none⟩ = some (.int .i64 y.event)∧V.cell? ⟨g2,o2+k * 3+1,none⟩ = some (.int .i64 y.user)∧V.cell? ⟨g2,o2+k * 3+2,none⟩ = some (.slice ai2 y.vals.length ki2)) (by kernel_rfl) (HSF.out _ hbz) (fun hHeld=>?_)
        refine takesH [0,1,2,3,4,5,6,7,8,9,10,11,12,13,14,15,16,17,18,19,20,21,22,23,24,25,26,27,28,29,30,31,32,33,34,35,36,37] (by kernel_rfl) (fun _ _ d _ _ h=>by cases d <;> exact h) (by kernel_rfl) (by kernel_rfl) (by assumption) ?_
        repeat (first
         | (refine TakeSeq.cons (v:=?_) rfl (by rfl) ?_ ?_
            rotate_left
            · ((intro w hSw;go_simp) <;> (try with_reducible rfl))
            (try rw[b1])
            (try go_simp))
         | (refine TakeSeq.skip rfl (by rfl) ?_;(try go_simp)))
        refine TakeSeq.nil ?_
        refine doneH (by kernel_rfl) ?_
        go_wp2
        go_ret
        exact⟨ret_bool HN.out.symm,HBR.out.trans (hbz.mono HBR.out.size)⟩
    · have hkn:k=a.length:=by omega
      have HN:Hid (R=true):=by
       unfold Hid;rw[←HR.out]
       have h:=HT.out
       rw[hkn,List.take_length,HL.out,List.take_length] at h
       exact sameG_iff.2 h
      have hge':=nltI (Nat.not_lt.2 hge)
      clear hkn
      go_wp2
      go_ret
      exact⟨ret_bool HN.out.symm,HBR.out⟩
 · have HN:Hid (R=false):=by unfold Hid;rw[←HR.out];exact sameG_no (fun e=>hl (by rw[e]))
   have be: ((a.length:Int) != (b.length:Int))=true:=by simp;omega
   clear hl
   go_enter Tryz.func10,Tryz.ntmps10
   go_wp2
   go_ret
   exact⟨ret_bool HN.out.symm,Below.refl _ _⟩
end Go.Proofs.YtadjnfpomjopkaaGreat
namespace Go.Proofs.YtadjnfpomjopkaaGreat
open Go.RowKit
theorem moveOne {V:World} {b:Nat} {x:Mv} {ai:Option Addr} {ki:Nat} (h:Blk V b #[.int .i64 x.event,.int .i64 x.user,.slice ai x.vals.length ki] 58) (hr:RowE intE 1 V (.slice ai x.vals.length ki) x.vals):RowE moveE 3 V (.slice (some ⟨b,0,none⟩) 1 1) [x]:=by
 refine⟨_,1,rfl,⟨(fun h=>by cases h),(by simp),(by unfold maxLen;omega)⟩,.inr ⟨b,0,rfl,h.lt,fun i a hi=>?_⟩⟩
 have hi0:i=0:=by have:=(List.getElem?_eq_some_iff.1 hi).1;simp at this;omega
 subst hi0
 obtain rfl:x=a:=by simpa using hi
 refine⟨[.int .i64 x.event,.int .i64 x.user,.slice ai x.vals.length ki],rfl,⟨_,rfl,hr⟩,fun j u hj=>?_⟩
 have:=h.cell (i:=j) (v:=u) (by simpa using hj)
 simpa using this
theorem sameG_one (x y:Mv):sameG [x] [y]=mvB x y:=by simp[sameG]
theorem part_hit {l r:List Mv} {i j:Nat} {x y:Mv} (hx:l[i]?=some x) (hy:r[j]?=some y) (h:mvB x y=true):partG (l.drop i) (r.drop j)=partG (l.drop (i+1)) (r.drop (j+1)):=by
 rw[List.drop_eq_getElem?_toList_append,List.drop_eq_getElem?_toList_append (l:=r),hx,hy]
 show partG (x :: _) (y :: _)=_
 rw[partG,if_pos h]
 rfl
theorem part_miss {l r:List Mv} {i j:Nat} {x y:Mv} (hx:l[i]?=some x) (hy:r[j]?=some y) (h:mvB x y=false):partG (l.drop i) (r.drop j)=partG (l.drop i) (r.drop (j+1)):=by
 have e1:l.drop i=x :: l.drop (i+1):=by rw[List.drop_eq_getElem?_toList_append,hx];rfl
 have e2:r.drop j=y :: r.drop (j+1):=by rw[List.drop_eq_getElem?_toList_append,hy];rfl
 rw[e2,e1,partG,if_neg (by rw[h];simp)]
theorem part_end {l:List Mv} {i:Nat} (r:List Mv) (h:i=l.length):partG (l.drop i) r=true:=by
 rw[h,List.drop_length];cases r <;> rfl
theorem part_out {l r:List Mv} {i j:Nat} (hi:i < l.length) (h:j=r.length):partG (l.drop i) (r.drop j)=false:=by
 rw[h,List.drop_length,List.drop_eq_getElem_cons hi];rfl
set_option maxRecDepth 100000 in
set_option maxHeartbeats 4000000 in
theorem rpartQ {w:World} {a b:List Mv} {ad bd:Option Addr} {ac bc:Nat} (ha:RowE moveE 3 w (.slice ad a.length ac) a) (hb:RowE moveE 3 w (.slice bd b.length bc) b) :
 Calls Tryz.prog 12 #[.slice ad a.length ac,.slice bd b.length bc] w (Ret w (.bool (partG a b))):=by
 have hax:=ha.max
 have hbx:=hb.max
 obtain⟨R,hR⟩:∃ R,partG a b=R:=⟨_,rfl⟩
 have HR:=Lib.hid hR
 rw[hR]
 have HA:=Lib.hid ha
 have HB:=Lib.hid hb
 clear ha hb hR
 go_enter Tryz.func12,Tryz.ntmps12
 go_wp2
 go_loopw [5,6] (fun io jo wr=>∃ i j:Nat,io=.int .i64 (i:Int)∧jo=.int .i64 (j:Int)∧i≤a.length∧j≤b.length∧Hid (Below w.heap.size w wr)∧Hid (partG (a.drop i) (b.drop j)=R)) (fun _ jo _=>b.length - (intOf jo).toNat)
 case atStart=>exact⟨0,0,rfl,rfl,Nat.zero_le _,Nat.zero_le _,Below.refl _ _,HR.out⟩
 case round=>
  obtain⟨i,j,rfl,rfl,hi,hj,HBR,HP⟩:=hrel
  rcases Nat.lt_or_ge j b.length with hltj|hgej
  · have hjz:=ltI hltj
    rcases Nat.lt_or_ge i a.length with hlti|hgei
    · have hiz:=ltI hlti
      obtain⟨x,hx⟩:∃ x,a[i]?=some x:=⟨_,List.getElem?_eq_getElem hlti⟩
      obtain⟨y,hy⟩:∃ y,b[j]?=some y:=⟨_,List.getElem?_eq_getElem hltj⟩
      obtain⟨g1,o1,cp1,ai1,ki1,hv1,hl1,hr1,f10,f11,f12⟩:=moveRow (HA.out.below moveE_keep HBR.out) hx
      obtain⟨g2,o2,cp2,ai2,ki2,hv2,hl2,hr2,f20,f21,f22⟩:=moveRow (HB.out.below moveE_keep HBR.out) hy
      simp only[Value.slice.injEq] at hv1 hv2
      have hd1:=hv1.1
      have hd2:=hv2.1
      have HSF:Hid (∀ V,Below wr.heap.size wr V→(V.cell? ⟨g1,o1+i * 3,none⟩ = some (.int .i64 x.event)∧V.cell? ⟨g1,o1+i * 3+1,none⟩ = some (.int .i64 x.user)∧V.cell? ⟨g1,o1+i * 3+2,none⟩ = some (.slice ai1 x.vals.length ki1))∧V.cell? ⟨g2,o2+j * 3,none⟩ = some (.int .i64 y.event)∧V.cell? ⟨g2,o2+j * 3+1,none⟩ = some (.int .i64 y.user)∧V.cell? ⟨g2,o2+j * 3+2,none⟩ = some (.slice ai2 y.vals.length ki2)):=fun V hV=>⟨⟨(hV.cell (p:=⟨g1,o1+i * 3,none⟩) hl1).trans f10,(hV.cell (p:=⟨g1,o1+i * 3+1,none⟩) hl1).trans f11,(hV.cell (p:=⟨g1,o1+i * 3+2,none⟩) hl1).trans f12⟩,(hV.cell (p:=⟨g2,o2+j * 3,none⟩) hl2).trans f20,(hV.cell (p:=⟨g2,o2+j * 3+1,none⟩) hl2).trans f21,(hV.cell (p:=⟨g2,o2+j * 3+2,none⟩) hl2).trans f22⟩
      have HRx:Hid (∀ V,Below wr.heap.size wr V→RowE intE 1 V (.slice ai1 x.vals.length ki1) x.vals):=fun V hV=>hr1.below intE_keep hV
      have HRy:Hid (∀ V,Below wr.heap.size wr V→RowE intE 1 V (.slice ai2 y.vals.length ki2) y.vals):=fun V hV=>hr2.below intE_keep hV
      obtain⟨mb,hmb⟩:∃ z,mvB x y=z:=⟨_,rfl⟩
      have HSG:Hid (sameG [x] [y]=mb):=by unfold Hid;rw[sameG_one,hmb]
      have HSM:Hid (∀ V b1 b2,RowE moveE 3 V (.slice (some ⟨b1,0,none⟩) 1 1) [x]→RowE moveE 3 V (.slice (some ⟨b2,0,none⟩) 1 1) [y]→Calls Tryz.prog 10 #[.slice (some ⟨b1,0,none⟩) 1 1,.slice (some ⟨b2,0,none⟩) 1 1] V (Ret V (.bool mb))):=fun V b1 b2 h1 h2=>by rw[←HSG.out];exact rsame19Q (a:=[x]) (b:=[y]) h1 h2
      have HNX:Hid ((mb=true→partG (a.drop (i+1)) (b.drop (j+1))=R)∧(mb=false→partG (a.drop i) (b.drop (j+1))=R)):=⟨fun h=>by rw[←HP.out,part_hit hx hy (by rw[hmb,h])],fun h=>by rw[←HP.out,part_miss hx hy (by rw[hmb,h])]⟩
      clear hx hy hv1 hv2 hl1 hl2 hr1 hr2 hmb
      go_upto_region 5 with fail
      clear f10 f11 f12 f20 f21 f22
      have hbz:Below wr.heap.size wr wr.drew:=(Below.refl _ _).drew
      refine startH (S:=fun V=>(V.cell? ⟨g1,o1+i * 3,none⟩ = some (.int .i64 x.event)∧V.cell? ⟨g1,o1+i * 3+1,none⟩ = some (.int .i64 x.user)∧V.cell? ⟨g1,o1+i * 3+2,none⟩ = some (.slice ai1 x.vals.length ki1))∧V.cell? ⟨g2,o2+j * 3,none⟩ = some (.int .i64 y.event)∧V.cell? ⟨g2,o2+j * 3+1,none⟩ = some (.int .i64 y.user)∧V.cell? ⟨g2,o2+j * 3+2,none⟩ = some (.slice ai2 y.vals.length ki2)) (by kernel_rfl) (HSF.out _ hbz) (fun hHeld=>?_)
      generalize wr.drew=D at hbz hHeld ⊢
      refine takesH [0,1,2,3,5,6,7,8] (by kernel_rfl) (fun _ _ d _ _ h=>by cases d <;> exact h) (by kernel_rfl) (by kernel_rfl) (by assumption) ?_
      repeat (first
       | (refine TakeSeq.cons (v:=?_) rfl (by rfl) ?_ ?_
          rotate_left
          · ((intro w hSw;go_simp) <;> (try with_reducible rfl))
          (try go_simp))
       | (refine TakeSeq.skip rfl (by rfl) ?_;(try go_simp)))
      refine TakeSeq.nil ?_
      refine callH2 4 9 (by kernel_rfl) (by kernel_rfl) rfl (by rfl) rfl (by rfl) ?_ ?_
      · obtain⟨V1,hvx,hbn,xnx⟩:=box1 D #[.int .i64 x.event,.int .i64 x.user,.slice ai1 x.vals.length ki1] 58
        intro K hK
        go_simp
        have hbz:=hbz.trans (hbn.mono hbz.size)
        have hrwx:=moveOne xnx (HRx.out _ hbz)
        refine hK.out _ _ (HSF.out _ hbz) (fun hHeld=>?_)
        clear hK K hbn xnx
        (try go_simp)
        refine callH 9 (by kernel_rfl) (by kernel_rfl) rfl (by rfl) ?_
        obtain⟨V2,hvy,hbn,xny⟩:=box1 V1 #[.int .i64 y.event,.int .i64 y.user,.slice ai2 y.vals.length ki2] 58
        replace hrwx:=hrwx.below moveE_keep hbn
        intro K hK
        go_simp
        have hbz:=hbz.trans (hbn.mono hbz.size)
        have hrwy:=moveOne xny (HRy.out _ hbz)
        refine hK.out _ _ (HSF.out _ hbz) (fun hHeld=>?_)
        clear hK K hbn xny
        (try go_simp)
        refine callH 10 (by kernel_rfl) (by kernel_rfl) rfl (by rfl) ?_
        intro K hK
        go_simp
        go_at_call 10
        with_reducible refine(HSM.out _ _ _ hrwx hrwy).mono ?_
        rintro e5 W5 ⟨rfl,hbn⟩
        have hbz:=hbz.trans (hbn.mono hbz.size)
        refine hK.out _ _ (HSF.out _ hbz) (fun hHeld=>?_)
        clear hK K hbn
        (try go_simp)
        refine doneH (by kernel_rfl) ?_
        have HBZ:=Lib.hid (HBR.out.trans (hbz.mono HBR.out.size))
        clear hbz hHeld hrwx hrwy
        cases mb
        · have HN:=Lib.hid (HNX.out.2 rfl)
          go_wp2
          (try rw[←hd1])
          (try rw[←hd2])
          go_roundw
          case rel=>exact⟨i,rfl,j+1,by go_num,hi,hltj,HN.out⟩
          case measure=>simp[intOf];omega
        · have HN:=Lib.hid (HNX.out.1 rfl)
          go_wp2
          (try rw[←hd1])
          (try rw[←hd2])
          go_roundw
          case rel=>exact⟨i+1,by go_num,j+1,by go_num,hlti,hltj,HN.out⟩
          case measure=>simp[intOf];omega
      · obtain⟨V1,hvy,hbn,xny⟩:=box1 D #[.int .i64 y.event,.int .i64 y.user,.slice ai2 y.vals.length ki2] 58
        intro K hK
        go_simp
        have hbz:=hbz.trans (hbn.mono hbz.size)
        have hrwy:=moveOne xny (HRy.out _ hbz)
        refine hK.out _ _ (HSF.out _ hbz) (fun hHeld=>?_)
        clear hK K hbn xny
        (try go_simp)
        refine callH 4 (by kernel_rfl) (by kernel_rfl) rfl (by rfl) ?_
        obtain⟨V2,hvx,hbn,xnx⟩:=box1 V1 #[.int .i64 x.event,.int .i64 x.user,.slice ai1 x.vals.length ki1] 58
        replace hrwy:=hrwy.below moveE_keep hbn
        intro K hK
        go_simp
        have hbz:=hbz.trans (hbn.mono hbz.size)
        have hrwx:=moveOne xnx (HRx.out _ hbz)
        refine hK.out _ _ (HSF.out _ hbz) (fun hHeld=>?_)
        clear hK K hbn xnx
        (try go_simp)
        refine callH 10 (by kernel_rfl) (by kernel_rfl) rfl (by rfl) ?_
        intro K hK
        go_simp
        go_at_call 10
        with_reducible refine(HSM.out _ _ _ hrwx hrwy).mono ?_
        rintro e5 W5 ⟨rfl,hbn⟩
        have hbz:=hbz.trans (hbn.mono hbz.size)
        refine hK.out _ _ (HSF.out _ hbz) (fun hHeld=>?_)
        clear hK K hbn
        (try go_simp)
        refine doneH (by kernel_rfl) ?_
        have HBZ:=Lib.hid (HBR.out.trans (hbz.mono HBR.out.size))
        clear hbz hHeld hrwx hrwy
        cases mb
        · have HN:=Lib.hid (HNX.out.2 rfl)
          go_wp2
          (try rw[←hd1])
          (try rw[←hd2])
          go_roundw
          case rel=>exact⟨i,rfl,j+1,by go_num,hi,hltj,HN.out⟩
          case measure=>simp[intOf];omega
        · have HN:=Lib.hid (HNX.out.1 rfl)
          go_wp2
          (try rw[←hd1])
          (try rw[←hd2])
          go_roundw
          case rel=>exact⟨i+1,by go_num,j+1,by go_num,hlti,hltj,HN.out⟩
          case measure=>simp[intOf];omega
    · have hie:i=a.length:=by omega
      have HN:Hid (R=true):=by unfold Hid;rw[←HP.out];exact part_end _ hie
      have hge':=nltI (Nat.not_lt.2 hgei)
      subst hie
      have be: ((a.length:Int) == (a.length:Int))=true:=by simp
      go_wp2
      go_ret
      exact⟨ret_bool HN.out.symm,HBR.out⟩
  · have hje:j=b.length:=by omega
    have hge':=nltI (Nat.not_lt.2 hgej)
    rcases Nat.lt_or_ge i a.length with hlti|hgei
    · have HN:Hid (R=false):=by unfold Hid;rw[←HP.out];exact part_out hlti hje
      have be: ((i:Int) == (a.length:Int))=false:=by rw[beq_eq_false_iff_ne];omega
      clear hje
      go_wp2
      go_ret
      exact⟨ret_bool HN.out.symm,HBR.out⟩
    · have hie:i=a.length:=by omega
      have HN:Hid (R=true):=by unfold Hid;rw[←HP.out];exact part_end _ hie
      subst hie
      have be: ((a.length:Int) == (a.length:Int))=true:=by simp
      clear hje
      go_wp2
      go_ret
      exact⟨ret_bool HN.out.symm,HBR.out⟩
end Go.Proofs.YtadjnfpomjopkaaGreat
namespace Go.Proofs.YtadjnfpomjopkaaGreat
open Go.RowKit
def seqF (M:Mdl):Sta→List Mv→List (Sta × Int)
 | _,[]=>[]
 | s,v :: r=>doS M s v :: (if(doS M s v).2≠0 then[] else seqF M (doS M s v).1 r)
def seqS (M:Mdl) (l:List Mv):List (Sta × Int):=(beginS M,0) :: seqF M (beginS M) l
theorem seqF_run (M:Mdl):∀ (l:List Mv) (s:Sta),(∀ x ∈ seqF M s l,x.2=0)→runG M s l= (s :: (seqF M s l).map (·.1),0)
 | [],s,_=>rfl
 | v :: r,s,h=>by
   have h0: (doS M s v).2=0:=h _ (by rw[seqF];exact List.mem_cons_self)
   have e:seqF M s (v :: r)=doS M s v :: seqF M (doS M s v).1 r:=by rw[seqF,if_neg (by rw[h0];simp)]
   rw[runG,if_neg (by rw[h0];simp),seqF_run M r (doS M s v).1 (fun x hx=>h x (by rw[e];exact List.mem_cons_of_mem _ hx)),e]
   rfl
theorem seqF_stop (M:Mdl):∀ (l:List Mv) (s z:Sta) (e:Int) (p:List (Sta × Int)),e≠0→(∀ x ∈ p,x.2=0)→p ++ [(z,e)] <+:seqF M s l→runG M s l= (s :: p.map (·.1),e)
 | [],s,z,e,p,_,_,h=>by
   rw[seqF,List.prefix_nil] at h
   simp at h
 | v :: r,s,z,e,p,he,hp,h=>by
   cases p with
   | nil=>
     rw[seqF,List.nil_append,List.cons_prefix_cons] at h
     have h0: (doS M s v).2=e:=by rw[←h.1]
     rw[runG,if_pos (by rw[h0];exact he),h0];rfl
   | cons x p=>
     rw[seqF,List.cons_append,List.cons_prefix_cons] at h
     have h0: (doS M s v).2=0:=by rw[←h.1];exact hp x List.mem_cons_self
     have h1:=h.2
     rw[if_neg (by rw[h0];simp)] at h1
     rw[runG,if_neg (by rw[h0];simp),seqF_stop M r (doS M s v).1 z e p he (fun y hy=>hp y (List.mem_cons_of_mem _ hy)) h1,h.1]
     rfl
theorem seqS_all {M:Mdl} {l:List Mv} (h:∀ x ∈ seqS M l,x.2=0):allG M l= ((seqS M l).map (·.1),0):=by
 unfold allG
 rw[seqF_run M l _ (fun x hx=>h x (by unfold seqS;exact List.mem_cons_of_mem _ hx))]
 rfl
theorem seqS_stop {M:Mdl} {l:List Mv} {p:List (Sta × Int)} {z:Sta} {e:Int} (he:e≠0) (hp:∀ x ∈ p,x.2=0) (h:p ++ [(z,e)] <+:seqS M l):allG M l= (p.map (·.1),e):=by
 unfold seqS at h
 cases p with
 | nil=>
   rw[List.nil_append,List.cons_prefix_cons] at h
   have:=h.1
   simp only[Prod.mk.injEq] at this
   exact absurd this.2 he
 | cons x p=>
   rw[List.cons_append,List.cons_prefix_cons] at h
   unfold allG
   rw[seqF_stop M l _ z e p he (fun y hy=>hp y (List.mem_cons_of_mem _ hy)) h.2,h.1]
   rfl
theorem seqF_len (M:Mdl):∀ (l:List Mv) (s:Sta),(seqF M s l).length≤l.length
 | [],_=>Nat.le_refl _
 | v :: r,s=>by
   rw[seqF]
   split
   · simp
   · have:=seqF_len M r (doS M s v).1;simp only[List.length_cons];omega
theorem seqF_at {M:Mdl} {s:Sta} {L:List Mv} {k:Nat} {v:Mv} (h:L[k]?=some v):seqF M s (L.drop k)=doS M s v :: (if(doS M s v).2≠0 then[] else seqF M (doS M s v).1 (L.drop (k+1))):=by
 obtain⟨hl,e⟩:=List.getElem?_eq_some_iff.1 h
 rw[List.drop_eq_getElem_cons hl,e,seqF]
theorem do_bd {M:Mdl} {s:Sta} (v:Mv) (h:Bd s):Bd (doS M s v).1:=by
 unfold doS
 split
 · exact⟨Int.le_refl _,by show(0:Int) < 2147483648;omega⟩
 split
 · exact h
 · exact Bd.pass (s:=takeS M s v) v.event h
theorem begin_bd (M:Mdl):Bd (beginS M):=Bd.pass (-1) (startS_bd M)
theorem runG_len (M:Mdl):∀ (l:List Mv) (s:Sta),(runG M s l).1.length≤l.length+1∧0 < (runG M s l).1.length
 | [],_=>⟨Nat.le_refl _,Nat.zero_lt_one⟩
 | v :: r,s=>by
   rw[runG]
   split
   · simp
   · have:=runG_len M r (doS M s v).1
     simp only[List.length_cons];omega
end Go.Proofs.YtadjnfpomjopkaaGreat
