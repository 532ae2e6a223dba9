/- A part of a proof of DeclReadsProof. -/
import Derived.Test.YthlofmnmacpogaaGreatDoorRt16
import Derived.Test.YthlofmnmacpogaaGreatDoorRt01
import Derived.Deep.RegionLaw
set_option maxRecDepth 100000
set_option maxHeartbeats 40000000
namespace Go.Proofs.YthlofmnmacpogaaGreatDoor
open Go.RowKit
theorem info_strD: (Tryz.prog.info? 9).map (fun i=>(i.zero,i.size,i.bytes))=some (some (.string ⟨#[]⟩),1,16):=by kernel_rfl
theorem strV_snoc (l:List ByteArray) (s:ByteArray):strV (l ++ [s])=strV l ++ [.string s]:=by simp[strV]
theorem DT.grown_blk {w w1 w3:World} {B b:Nat} {lv nv iv:Value} {T:List Tk} {r:RS} (h:DT w w1 B b lv nv iv T r) {o:Obj} (hg: (w1.alloc o).grownBy w3 nv.ownBlock) :
 w3.heap[b]?=w1.heap[b]?:=
 (hg.block b (by have:=h.rd.lt;simp;omega) (Ne.symm (row_apart h.rd.nm h.rd.blk (by decide)))).trans (Below.heap_alloc _ _ _ h.rd.lt)
theorem DT.names_at {w w1 w3:World} {B b:Nat} {lv nv iv:Value} {T:List Tk} {r:RS} (h:DT w w1 B b lv nv iv T r) {o:Obj} (hg: (w1.alloc o).grownBy w3 nv.ownBlock) :
 w3.cell? ⟨b,7,none⟩ = some nv∧w3.frozen? ⟨b,7,none⟩ = false:=by
 have hb:=(h.grown_blk hg).trans h.rd.blk
 exact⟨by simp[World.cell?,hb],by simp[World.frozen?,hb]⟩
theorem DT.put {w w1 w3:World} {B b:Nat} {lv nv iv:Value} {T:List Tk} {r:RS} (h:DT w w1 B b lv nv iv T r) (hB:B≤w.heap.size) (hnv:∀ g,nv.ownBlock=some g→w.heap.size≤g) {s:ByteArray} {g3 cap3:Nat} {o:Obj}
 (hg: (w1.alloc o).grownBy w3 nv.ownBlock) (hown:w3.ownsRow B 9 1 (.slice (some ⟨g3,0,none⟩) (r.x.names.length+1) cap3) (r.x.names.length+1) (strV r.x.names ++ [.string s])) (hat:nv.ownBlock=some g3∨w.heap.size≤g3) :
 DT w (w3.setCell ⟨b,7,none⟩ (.slice (some ⟨g3,0,none⟩) (r.x.names.length+1) cap3)) B b lv (.slice (some ⟨g3,0,none⟩) (r.x.names.length+1) cap3) iv T (setNames (r.x.names ++ [s]) r)∧
  ∀ g,(Value.slice (some ⟨g3,0,none⟩) (r.x.names.length+1) cap3).ownBlock=some g→w.heap.size≤g:=by
 have hB1:=Nat.le_trans hB h.gb.size
 have hblk:=(h.grown_blk hg).trans h.rd.blk
 have hlow:Below B w1 w3:=((Below.refl B w1).alloc hB1 o).grown hg (by simp;omega) (fun k e=>(h.rd.nm.lt k e).1)
 have hit:=owns_beside (h.rd.nm.alloc o) (h.rd.it.alloc o) (by decide) hg
 have hown2:w3.ownsRow B 9 1 (.slice (some ⟨g3,0,none⟩) (r.x.names.length+1) cap3) (r.x.names ++ [s]).length (strV (r.x.names ++ [s])):=by
  rw[strV_snoc,List.length_append,List.length_singleton];exact hown
 refine⟨⟨⟨heap_setCell_same w3 b 7 _ _ _ hblk,h.rd.low,(h.rd.tk.below hlow).below ((Below.refl B w3).setCell (p:=⟨b,7,none⟩) h.rd.low _),row_store hown2 hblk (by decide) _ _,row_store hit hblk (by decide) _ _⟩,?_⟩,?_⟩
 · refine gb_set ?_ _ _
   refine⟨hg.os.trans h.gb.os,hg.tape.trans h.gb.tape,hg.output.trans h.gb.output,Nat.le_trans h.gb.size (by have:=hg.size;simp at this;omega),fun q hq hne=>?_⟩
   have hq1:q < w1.heap.size:=Nat.lt_of_lt_of_le hq h.gb.size
   rw[hg.block q (by simp;omega) (fun e=>by have:=hnv q e.symm;omega),Below.heap_alloc _ _ _ hq1]
   exact h.gb.block q hq hne
 · intro g e
   have e2:g3=g:=by simpa [Value.ownBlock] using e
   subst e2
   rcases hat with e|e
   · exact hnv _ e
   · exact e
theorem posD {w:World} {B b:Nat} {lv nv iv:Value} {T:List Tk} {r:RS} (h:Dr w B b lv nv iv T r):posOf w b=r.i.toNat:=by
 obtain⟨_,c1,_⟩:=h.facts
 unfold posOf;rw[c1]
theorem drole_any {w:World} {B b:Nat} {lv iv:Value} {T:List Tk} {r:RS} (h:Dr w B b lv (.slice none 0 0) iv T r) (hnm:r.x.names= []) (hB:B≤w.heap.size) (hi:InD T r) :
 Calls Tryz.prog 39 #[.pointer (some ⟨b,0,none⟩)] w fun en w'=>en=.returned (.tuple #[])∧∃ nv,DT w w' B b lv nv iv T (roleD T r):=by
 have hTl:T.length≤1000000:=by obtain⟨_,_,_,hl,_⟩:=h.tk;exact hl
 have HC0:=Lh (DT.of_rd h)
 have HI0:=Lh hi
 have hbl:=h.lt
 have HNV:=Lh (show ∀ g,(Value.slice none 0 0).ownBlock=some g→w.heap.size≤g from fun g e=>by simp[Value.ownBlock] at e)
 have HNM:=Lh hnm
 obtain⟨i0,hi0,hz0,hz1,hz2⟩:=info_parts info_strD
 have HIP:=Lh (And.intro hi0 (And.intro hz0 (And.intro hz1 hz2)))
 clear hi0 hz0 hz1 hz2 hnm
 clear h hi
 go_enter Tryz.func39,Tryz.ntmps39
 obtain⟨r1,hr1⟩:∃ q,nameD T r=q:=⟨_,rfl⟩
 have HN1:=Lh hr1
 have HI1:=Lh (show InD T r1 by rw[←hr1];exact HI0.out.name)
 clear hr1
 obtain⟨s1,hs1⟩:∃ q,nameV T r=q:=⟨_,rfl⟩
 have HS1:=Lh hs1
 clear hs1
 go_wp2_with fail
 refine(dname_any HC0.out.rd (HC0.out.size hB) (bndD HI0.out hTl).1 (bndD HI0.out hTl).2).mono ?_
 rw[HS1.out,HN1.out]
 rintro en w1 ⟨rfl,hc⟩
 have HC1:=Lh (HC0.out.trans hc)
 clear hc
 obtain⟨_,_,_,c3,_,_,_,_,_,_,_,_,_,_,_,_,_⟩:=HC1.out.rd.facts
 obtain⟨_,_,_,f3,_,_,_,_,_,_,_,_,_,_,_,_,_⟩:=HC1.out.rd.free
 have HD1:=Lh (HC1.out.setName s1)
 have HJ1:=Lh (show InD T (setName s1 r1) from HI1.out)
 obtain⟨r2,hr2⟩:∃ q,needD T 4 sEq (setName s1 r1)=q:=⟨_,rfl⟩
 have HN2:=Lh hr2
 have HI2:=Lh (show InD T r2 by rw[←hr2];exact HJ1.out.need 4 sEq (by decide))
 clear hr2
 go_wp2_with fail
 refine(dneed_any HD1.out.rd (HD1.out.size hB) 4 sEq (bndD HJ1.out hTl).1 (bndD HJ1.out hTl).2).mono ?_
 rw[HN2.out]
 rintro en w2 ⟨rfl,hc⟩
 have HC2:=Lh (HD1.out.trans hc)
 clear hc
 have HM2:=Lh (show r2.x.names= [] by rw[←HN2.out,need_x];show r1.x.names= [];rw[←HN1.out];exact(congrArg St.names (take_x T 1 r)).trans HNM.out)
 obtain⟨r3,hr3⟩:∃ q,nameD T r2=q:=⟨_,rfl⟩
 have HN3:=Lh hr3
 have HI3:=Lh (show InD T r3 by rw[←hr3];exact HI2.out.name)
 have HX3:=Lh (show r3.x.names=r2.x.names by rw[←hr3];exact congrArg St.names (take_x T 1 r2))
 clear hr3
 obtain⟨s3,hs3⟩:∃ q,nameV T r2=q:=⟨_,rfl⟩
 have HS3:=Lh hs3
 clear hs3
 have hlen3:r3.x.names.length≤1000001:=by rw[HX3.out];exact(by rw[HM2.out];exact Nat.zero_le _)
 go_upto_region 2 with fail
 go_cut [] (fun wx=>∃ nv2:Value,Hid (DT w wx B b lv nv2 iv T (setNames (r3.x.names ++ [s3]) r3)∧∀ g,nv2.ownBlock=some g→w.heap.size≤g))
 case first=>
  obtain⟨_,_,_,_,_,_,_,c7,_,_,_,_,_,_,_,_,_⟩:=HC2.out.rd.drew.facts
  go_region_law (first
   | (go_simp;go_at_call 71;(with_reducible refine(dname_any HC2.out.drew.rd (HC2.out.drew.size hB) (bndD HI2.out hTl).1 (bndD HI2.out hTl).2).mono ?_)
      rw[HS3.out,HN3.out]
      rintro en w3 ⟨rfl,hc⟩
      have HC3:=Lh (HC2.out.drew.trans hc)
      obtain⟨_,_,_,_,_,_,_,d7,_,_,_,_,_,_,_,_,_⟩:=HC3.out.rd.facts
      obtain⟨_,_,_,_,_,_,_,x7,_,_,_,_,_,_,_,_,_⟩:=(HC3.out.alloc hB (.cells #[.string s3] 9)).rd.facts
      have hsz3:=HC3.out.gb.size
      clear hc)
   | (refine step_append_lies _ (by rfl) _ _ _ (by rfl) B 9 i0 _ 1 16 Tryz.underlying34 HIP.out.1 HIP.out.2.1 HIP.out.2.2.1 HIP.out.2.2.2 rfl (by omega) _ r3.x.names.length (strV r3.x.names) (by rfl) (World.ownsRow.alloc HC3.out.rd.nm _) ⟨w3.heap.size,0,none⟩ 1 1 [.string s3] (by rfl) (by rfl) (World.news_of_block (cs:=#[.string s3]) (t:=9) (fr:=(0,0)) (heap_at_size _ _ _ (by simp))) (by simp[Value.oneCell']) (by omega) (by unfold maxLen;omega) (by omega) (by simp;omega) (w3.heap.size+1) (by simp) ?_
      intro g3 cap3 v3 hown3 hgrow3 hat3 hlt3
      have HP3:=Lh (DT.put HC3.out hB HNV.out hgrow3 hown3 (by rcases hat3 with e|e;exact .inl e;exact .inr (by omega)))
      obtain⟨e7,z7⟩:=HC3.out.names_at hgrow3
      clear hown3 hgrow3 hat3))
  all_goals
   go_wp2_with fail
   go_meet
   exact⟨_,HP3.out⟩
 case rest=>
  obtain⟨nv3,hcut⟩:=hcut
  have HC3p:=Lh hcut.out.1
  have HNV3:=Lh hcut.out.2
  have HI3p:=Lh (show InD T (setNames (r3.x.names ++ [s3]) r3) from HI3.out)
  clear hcut
  have HL3:=Lh (show(setNames (r3.x.names ++ [s3]) r3).x.names.length=1 by show(r3.x.names ++ [s3]).length=1;rw[HX3.out,HM2.out];rfl)
  have HE3:Hid (roleD T r=roleL T (T.length+1) (setNames (r3.x.names ++ [s3]) r3)):=by
   unfold Hid;simp only[roleD,moreD,HS1.out,HN1.out,HN2.out,HS3.out,HN3.out];rw[HX3.out]
  go_wp2
  go_loopw [] (fun wr=>∃ (k:Nat) (rr:RS) (nv2:Value),Hid (DT w wr B b lv nv2 iv T rr∧(∀ g,nv2.ownBlock=some g→w.heap.size≤g)∧roleD T r=roleL T k rr∧InD T rr∧(T.length:Int) < rr.i+k∧(rr.x.names.length:Int)≤rr.i+1)) (fun wr=>T.length+1 - posOf wr b)
  case atStart=>exact⟨T.length+1,_,_,HC3p.out,HNV3.out,HE3.out,HI3p.out,by have:=HI3p.out.1;omega,by rw[HL3.out];have:=HI3p.out.1;omega⟩
  case round=>
   obtain⟨k,rr,nv2,HALL⟩:=hrel
   obtain⟨hDT,hnv2,hRL,hII,hfu,hnl⟩:=HALL.out
   have HC4:=Lh hDT;have HNV4:=Lh hnv2;have HRL:=Lh hRL;have HI4:=Lh hII;have HFU:=Lh hfu;have HNLH:=Lh hnl
   have hNL:rr.x.names.length≤1000001:=by have:=hII.2;omega
   have HPOS:Hid (posOf wr b=rr.i.toNat):=posD hDT.rd
   clear hDT hnv2 hRL hII hfu hnl HALL HC3p HNV3 HI3p
   go_wp2_with fail
   refine(dwell_any HC4.out.rd).mono ?_
   rintro en wq ⟨rfl,hw⟩
   rw[hw]
   clear hw wq
   by_cases h0:rr.er=0
   · have HW:=Lh (decide_eq_true h0)
     rw[HW.out]
     obtain⟨x,hx⟩:∃ x,tkAt T rr.i=x:=⟨_,rfl⟩
     have HX:=Lh hx
     have hfx0:∀ w:World,(Instr.field 48 (.agg #[.int .i64 x.kind,.string x.text,.int .i64 x.num,.int .i64 x.line,.int .i64 x.col]) 0).run Tryz.prog w=.ok (.int .i64 x.kind) w:=fun _=>by kernel_rfl
     clear hx h0
     go_wp2_with fail
     refine(dnow_any HC4.out.rd).mono ?_
     rintro en w5 ⟨rfl,hb5⟩
     rw[HX.out]
     unfold tokV
     have HC5:=Lh (HC4.out.then hb5 hB)
     clear hb5
     by_cases hk:x.kind=1
     · have hkb: (x.kind == 1)=true:=by rw[beq_iff_eq];exact hk
       have HKB:Hid (kindB T 1 rr=true):=by unfold Hid kindB;rw[HX.out,decide_eq_true hk,HW.out];rfl
       clear hk
       obtain⟨k,rfl⟩:∃ q,k=q+1:=⟨k - 1,by have:=HFU.out;have:=HI4.out.2;omega⟩
       obtain⟨r6,hr6⟩:∃ q,nameD T rr=q:=⟨_,rfl⟩
       have HN6:=Lh hr6
       have HI6:=Lh (show InD T r6 by rw[←hr6];exact HI4.out.name)
       have HX6:=Lh (show r6.x.names=rr.x.names by rw[←hr6];exact congrArg St.names (take_x T 1 rr))
       clear hr6
       obtain⟨s6,hs6⟩:∃ q,nameV T rr=q:=⟨_,rfl⟩
       have HS6:=Lh hs6
       clear hs6
       have hlen6:r6.x.names.length≤1000001:=by rw[HX6.out];exact hNL
       go_upto_region 4 with fail
       obtain⟨_,_,_,_,_,_,_,c7,_,_,_,_,_,_,_,_,_⟩:=HC5.out.rd.drew.facts
       go_region_law (first
        | (go_simp;go_at_call 71;(with_reducible refine(dname_any HC5.out.drew.rd (HC5.out.drew.size hB) (bndD HI4.out hTl).1 (bndD HI4.out hTl).2).mono ?_)
           rw[HS6.out,HN6.out]
           rintro en w6 ⟨rfl,hc⟩
           have HC6:=Lh (HC5.out.drew.trans hc)
           obtain⟨_,_,_,_,_,_,_,d7,_,_,_,_,_,_,_,_,_⟩:=HC6.out.rd.facts
           obtain⟨_,_,_,_,_,_,_,x7,_,_,_,_,_,_,_,_,_⟩:=(HC6.out.alloc hB (.cells #[.string s6] 9)).rd.facts
           have hsz6:=HC6.out.gb.size
           clear hc)
        | (refine step_append_lies _ (by rfl) _ _ _ (by rfl) B 9 i0 _ 1 16 Tryz.underlying34 HIP.out.1 HIP.out.2.1 HIP.out.2.2.1 HIP.out.2.2.2 rfl (by omega) _ r6.x.names.length (strV r6.x.names) (by rfl) (World.ownsRow.alloc HC6.out.rd.nm _) ⟨w6.heap.size,0,none⟩ 1 1 [.string s6] (by rfl) (by rfl) (World.news_of_block (cs:=#[.string s6]) (t:=9) (fr:=(0,0)) (heap_at_size _ _ _ (by simp))) (by simp[Value.oneCell']) (by omega) (by unfold maxLen;omega) (by omega) (by simp;omega) (w6.heap.size+1) (by simp) ?_
           intro g6 cap6 v6 hown6 hgrow6 hat6 hlt6
           have HP6:=Lh (DT.put HC6.out hB HNV4.out hgrow6 hown6 (by rcases hat6 with e|e;exact .inl e;exact .inr (by omega)))
           obtain⟨e7,z7⟩:=HC6.out.names_at hgrow6
           clear hown6 hgrow6 hat6))
       all_goals
        have HC6p:=Lh HP6.out.1
        have HNV6:=Lh HP6.out.2
        have HI6p:=Lh (show InD T (setNames (r6.x.names ++ [s6]) r6) from HI6.out)
        have HNX:Hid (r6.i=rr.i+1):=by unfold Hid;rw[←HN6.out];exact take_next HKB.out
        have HRL6:Hid (roleD T r=roleL T k (setNames (r6.x.names ++ [s6]) r6)):=by
         unfold Hid;rw[HRL.out,roleL,if_pos HKB.out,moreD,HS6.out,HN6.out,HX6.out]
        have HLN:Hid ((r6.x.names ++ [s6]).length=rr.x.names.length+1):=by unfold Hid;rw[HX6.out];simp
        go_wp2
        go_roundw
        case rel=>exact⟨k,_,_,HC6p.out,HNV6.out,HRL6.out,HI6p.out,by have:=HNX.out;have:=HFU.out;show(T.length:Int) < r6.i+k;omega,by have:=HNX.out;have:=HNLH.out;have:=HLN.out;show((r6.x.names ++ [s6]).length:Int)≤r6.i+1;omega⟩
        case measure=>
         rw[posD HC6p.out.rd,HPOS.out]
         have e: (setNames (r6.x.names ++ [s6]) r6).i=rr.i+1:=HNX.out
         rw[e]
         have:=HI4.out.1;have:=HI6p.out.2
         rw[e] at this
         omega
     · have hkb: (x.kind == 1)=false:=beq_eq_false_iff_ne.2 hk
       have HKB:Hid (kindB T 1 rr=false):=by unfold Hid kindB;rw[HX.out,decide_eq_false hk,Bool.false_and]
       clear hk
       have HFIN:=Lh HC5.out
       have HE:Hid (roleD T r=rr):=by
        unfold Hid;rw[HRL.out]
        cases k with
        | zero=>rfl
        | succ k=>rw[roleL,if_neg (by rw[HKB.out];decide)]
       go_wp2
       first
       | go_end0
       | ((try simp only[Exit.inBlock,Exit.then]);refine bodyPost_ret (results_none rfl _ _ _) rfl ?_)
       exact⟨rfl,nv2,by rw[HE.out];exact HFIN.out⟩
   · have HW:=Lh (decide_eq_false h0)
     rw[HW.out]
     have HKB:Hid (kindB T 1 rr=false):=by unfold Hid kindB;rw[HW.out,Bool.and_false]
     clear h0
     have HFIN:=Lh HC4.out
     have HE:Hid (roleD T r=rr):=by
      unfold Hid;rw[HRL.out]
      cases k with
      | zero=>rfl
      | succ k=>rw[roleL,if_neg (by rw[HKB.out];decide)]
     go_wp2
     first
     | go_end0
     | ((try simp only[Exit.inBlock,Exit.then]);refine bodyPost_ret (results_none rfl _ _ _) rfl ?_)
     exact⟨rfl,nv2,by rw[HE.out];exact HFIN.out⟩
end Go.Proofs.YthlofmnmacpogaaGreatDoor
