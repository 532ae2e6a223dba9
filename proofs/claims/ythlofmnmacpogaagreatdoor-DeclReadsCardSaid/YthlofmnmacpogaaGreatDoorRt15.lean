/- A part of a proof of DeclReadsProof. -/
import Derived.Test.YthlofmnmacpogaaGreatDoorRt14
import Derived.Test.YthlofmnmacpogaaGreatDoorRt03
set_option maxRecDepth 100000
set_option maxHeartbeats 40000000
namespace Go.Proofs.YthlofmnmacpogaaGreatDoor
open Go.RowKit
def OnB (w:World) (k:Nat) (v:Value) (t:TypeId):Prop:=w.heap[k]?=some (.cells #[v] t (0,0))
theorem OnB.c {w:World} {k:Nat} {v:Value} {t:TypeId} (h:OnB w k v t):w.cell? ⟨k,0,none⟩ = some v:=by
 unfold OnB at h;simp[World.cell?,h]
theorem OnB.lt {w:World} {k:Nat} {v:Value} {t:TypeId} (h:OnB w k v t):k < w.heap.size:=(Array.getElem?_eq_some_iff.1 h).1
theorem OnB.kept {w w':World} {b k:Nat} {v:Value} {t:TypeId} (h:OnB w k v t) (ht:Lib.OthersKept 87 (some b) w w') (hkb:k≠b) (hne:t≠87):OnB w' k v t:=
 ht k _ h (fun e=>hkb (Option.some.inj e)) (fun c fz e=>by simp at e;exact hne e.2.1)
theorem OnB.alloc {w:World} {k:Nat} {v:Value} {t:TypeId} (h:OnB w k v t) (o:Obj):OnB (w.alloc o) k v t:=(Below.heap_alloc _ _ _ h.lt).trans h
theorem fInner_any (n:Nat) (hs:SignOK n) (p1 p2:Nat) (d:Int) (hd:d=25 - (n:Int)) {w:World} {B b:Nat} {lv:Value} {T:List Tk} {prop:Bool} (h1:OnB w p1 (.pointer (some ⟨b,0,none⟩)) 135) (h2:OnB w p2 (.int .i64 d) 3) (hn1:p1≠b) (hn2:p2≠b) (hB:B≤w.heap.size) :
 OneOK 120 #[.pointer (some ⟨p1,0,none⟩),.pointer (some ⟨p2,0,none⟩)] w B b lv T prop (bothP T prop n).1:=by
 intro w' ov O l c i hk hb h hlo hhi hO
 have c1:=(h1.kept hk hn1 (by decide)).c
 have c2:=(h2.kept hk hn2 (by decide)).c
 have HS:=Lh (hs w' B b lv T i prop ov O l c d h (Nat.le_trans hB hb.size) hlo hhi hO hd)
 clear h h1 h2 hd hs hk hb
 go_enter Tryz.func120,Tryz.ntmps120
 go_wp2_with fail
 refine HS.out.mono ?_
 rintro e w1 hres
 have HR:=Lh hres
 obtain⟨q,rfl⟩:=hres.val
 clear hres
 go_wp2
 go_ret
 exact HR.out
theorem fOuter_any (n:Nat) (hs:SignOK n) (p1 p2:Nat) (d:Int) (hd:d=25 - (n:Int)) {w:World} {B b:Nat} {lv:Value} {T:List Tk} {prop:Bool} (h1:OnB w p1 (.pointer (some ⟨b,0,none⟩)) 135) (h2:OnB w p2 (.int .i64 d) 3) (hn1:p1≠b) (hn2:p2≠b) (hB:B≤w.heap.size) :
 OneOK 119 #[.pointer (some ⟨p1,0,none⟩),.pointer (some ⟨p2,0,none⟩)] w B b lv T prop (rowsP T (bothP T prop n).1 wAnd 16):=by
 intro w' ov O l c i hk hb h hlo hhi hO
 have k1:=h1.kept hk hn1 (by decide)
 have k2:=h2.kept hk hn2 (by decide)
 have c1:=k1.c
 have c2:=k2.c
 have HI:=Lh (fInner_any n hs p1 p2 d hd (lv:=lv) (T:=T) (prop:=prop) k1 k2 hn1 hn2 (Nat.le_trans hB hb.size))
 have HS:=Lh (rowAnd_any p1 p2 (bothP T prop n).1 (both_good T prop n).1 h (Nat.le_trans hB hb.size) hlo hhi hO d wAnd 16 HI.out)
 clear h h1 h2 hd hs hk hb k1 k2 HI
 go_enter Tryz.func119,Tryz.ntmps119
 go_wp2_with fail
 refine HS.out.mono ?_
 rintro e w1 hres
 have HR:=Lh hres
 obtain⟨q,rfl⟩:=hres.val
 clear hres
 go_wp2
 go_ret
 exact HR.out
theorem form_any (n:Nat) (hs:SignOK n) (hf:∀ m,n=m+1→FormOK m) (hn:n≤25):FormOK n:=by
 intro w B b lv T i prop ov O line col d h hB hlo hhi hO hd
 have hbl:=h.lt
 have hTl:=h.len
 have HTOP:Hid ((bothP T prop n).2 i=formP T (bothP T prop n).1 (bothP T prop (n - 1)).2 i):=by
  cases n with
  | zero=>rfl
  | succ m=>rfl
 rw[HTOP.out]
 have hg:=rowsP_good (rowsP_good (both_good T prop n).1 wAnd 16) wOr 17
 have HC:=Lh (((CTook.of_rd h).alloc hB (.cells #[.pointer (some ⟨b,0,none⟩)] 135)).alloc hB (.cells #[.int .i64 d] 3))
 have k1:OnB ((w.alloc (.cells #[.pointer (some ⟨b,0,none⟩)] 135)).alloc (.cells #[.int .i64 d] 3)) w.heap.size (.pointer (some ⟨b,0,none⟩)) 135:=OnB.alloc (heap_alloc_new w _) _
 have k2:OnB ((w.alloc (.cells #[.pointer (some ⟨b,0,none⟩)] 135)).alloc (.cells #[.int .i64 d] 3)) (w.heap.size+1) (.int .i64 d) 3:=heap_at_size _ _ _ (by simp)
 have HO:=fOuter_any n hs w.heap.size (w.heap.size+1) d hd (lv:=lv) (T:=T) (prop:=prop) k1 k2 (by omega) (by omega) (HC.out.size hB)
 have HROW:=Lh (rowOr_any w.heap.size (w.heap.size+1) (rowsP T (bothP T prop n).1 wAnd 16) (rowsP_good (both_good T prop n).1 wAnd 16) HC.out.rd (HC.out.size hB) hlo hhi hO d wOr 17 HO)
 have K1:=Lh k1;have K2:=Lh k2
 have hd0:0≤d:=by omega
 have hd1:d≤25:=by omega
 clear h HO k1 k2 hs HTOP
 cases hp:rowsP T (rowsP T (bothP T prop n).1 wAnd 16) wOr 17 i with
 | bad er l c=>
   have HU:Hid (formP T (bothP T prop n).1 (bothP T prop (n - 1)).2 i=.bad er l c):=by unfold Hid formP;rw[also_of_bad hp]
   have HE:=Lh hp
   clear hp hd hf hg
   go_enter Tryz.func104,Tryz.ntmps104
   go_wp2_with fail
   refine HROW.out.mono ?_
   rw[HE.out]
   rintro e w1 ⟨rfl,ov1,O1,i1,ht⟩
   have HF:=Lh (HC.out.trans ht)
   clear ht
   go_wp2
   go_ret
   exact CRes.bad HU.out rfl HF.out
 | ok o a=>
   have hga:=hg _ _ _ hp
   obtain⟨m,rfl⟩:∃ m,n=m+1:=by
    cases n with
    | zero=>
      have h0:badP T i 5=PR.ok o a:=hp
      cases h0
    | succ m=>exact⟨m,rfl⟩
   have HFO:=Lh (hf m rfl)
   have HDN:=Lh (show d+1=25 - (m:Int) by omega)
   have HG:=Lh (both_good T prop m).2
   obtain⟨form,hform⟩:∃ f,(bothP T prop m).2=f:=⟨_,rfl⟩
   have HFM:=Lh hform
   have HU:Hid (formP T (bothP T prop (m+1)).1 (bothP T prop (m+1 - 1)).2 i=if isTk T a 2 wImplies then(form (a+1)).also fun o2 b=>.ok (o ++o2 ++ [item 18 (tkAt T a)]) b else .ok o a):=by
    unfold Hid formP;rw[also_of_ok hp,Nat.add_sub_cancel,hform]
   unfold Hid at HG
   rw[hform] at HG
   have HG:=Lh HG
   have HE:=Lh hp
   obtain⟨x,hx⟩:∃ x,tkAt T a=x:=⟨_,rfl⟩
   have HX:=Lh hx
   obtain⟨q,hq⟩:∃ q,isTk T a 2 wImplies=q:=⟨_,rfl⟩
   have HQ:=Lh hq
   unfold Hid at HU
   rw[hx,hq] at HU
   have HU:=Lh HU
   have hfd:∀ w:World,(Instr.field 48 (.agg #[.int .i64 x.kind,.string x.text,.int .i64 x.num,.int .i64 x.line,.int .i64 x.col]) 3).run Tryz.prog w=.ok (.agg #[.int .i64 x.line,.int .i64 x.col]) w:=fun _=>by kernel_rfl
   have hOa: ((O ++o).length:Int)≤a:=by rw[List.length_append];omega
   have HOA:=Lh hOa
   clear hp hd hf hg hform hx hq hn hOa
   go_enter Tryz.func104,Tryz.ntmps104
   go_wp2_with fail
   refine HROW.out.mono ?_
   rw[HE.out]
   rintro e w1 ⟨rfl,ov1,l1,c1,ht⟩
   have HT:=Lh (HC.out.trans ht)
   have hk1:=K1.out.kept ht.kept (by omega) (by decide)
   have hk2:=K2.out.kept ht.kept (by omega) (by decide)
   have s1:=hk1.c
   have sl:=hk1.lt
   have J1:=Lh hk1;have J2:=Lh hk2
   clear ht hk1 hk2
   go_wp2_with fail
   refine(now_any HT.out.rd).mono ?_
   rintro e wa ⟨rfl,hba⟩
   rw[HX.out]
   unfold tokV
   have HC1:=Lh ((HT.out.then hba hB).alloc hB (.cells #[.int .i64 x.line,.int .i64 x.col] 26))
   have HP1:=Lh (show PsB (wa.alloc (.cells #[.int .i64 x.line,.int .i64 x.col] 26)) wa.heap.size x.line x.col from heap_alloc_new wa _)
   have ha1:OnB wa _ _ _:=(hba.block _ J1.out.lt).trans J1.out
   have ha2:OnB wa _ _ _:=(hba.block _ J2.out.lt).trans J2.out
   have A1:=Lh (ha1.alloc (.cells #[.int .i64 x.line,.int .i64 x.col] 26))
   have A2:=Lh (ha2.alloc (.cells #[.int .i64 x.line,.int .i64 x.col] 26))
   have s2:=ha1.c
   have sl2:=ha1.lt
   have hbs:=HC1.out.rd.lt
   have hbw:=hba.size
   have hbz:=HT.out.rd.lt
   clear hba ha1 ha2
   go_wp2_with fail
   refine(ctake_any HC1.out.rd (HC1.out.size hB) 2 _ (by omega) (by omega)).mono ?_
   rw[show isTk T a 2 ⟨#[105,109,112,108,105,101,115]⟩ = q from HQ.out]
   rintro e wb ⟨rfl,hcb⟩
   cases q
   · have HF:=Lh (HC1.out.trans hcb)
     clear hcb
     go_wp2
     go_ret
     exact CRes.ok HU.out rfl HF.out
   · have hin:=isTk_in HQ.out (by decide)
     have HF1:=Lh (show CTook w wb B b lv T (a+1) prop ov1 (O ++o) 0 l1 c1 from HC1.out.trans hcb)
     have HPB:=Lh (HP1.out.kept hcb.kept (by omega))
     have B1:=Lh (A1.out.kept hcb.kept (by omega) (by decide))
     have b2:=A2.out.kept hcb.kept (by omega) (by decide)
     have s3:=B1.out.c
     have s4:=b2.c
     clear hcb b2
     have HU:Hid (formP T (bothP T prop (m+1)).1 (bothP T prop (m+1 - 1)).2 i= (form (a+1)).also fun o2 b=>.ok (o ++o2 ++ [item 18 x]) b):=by
      have:=HU.out
      rw[if_pos rfl] at this
      exact this
     cases hp2:form (a+1) with
     | bad er l c=>
       have HE2:=Lh hp2
       clear hp2
       go_wp2_with fail
       refine(HFO.out _ B b lv T (a+1) prop ov1 (O ++o) l1 c1 (d+1) HF1.out.rd (HF1.out.size hB) (by omega) (by omega) (by have:=HOA.out;omega) HDN.out).mono ?_
       rw[HFM.out,HE2.out]
       rintro e w5 ⟨rfl,ov5,O5,i5,ht⟩
       have HF:=Lh (HF1.out.trans ht)
       clear ht
       go_wp2
       go_ret
       exact CRes.bad (HU.out.trans (also_of_bad HE2.out)) rfl HF.out
     | ok o2 a2=>
       have hg2:=HG.out _ _ _ hp2
       have HE2:=Lh hp2
       clear hp2
       go_wp2_with fail
       refine(HFO.out _ B b lv T (a+1) prop ov1 (O ++o) l1 c1 (d+1) HF1.out.rd (HF1.out.size hB) (by omega) (by omega) (by have:=HOA.out;omega) HDN.out).mono ?_
       rw[HFM.out,HE2.out]
       rintro e w5 ⟨rfl,ov5,l5,c5,ht⟩
       have HC5:=Lh (HF1.out.trans ht)
       have hp5:=HPB.out.kept ht.kept (by omega)
       have hb5:=B1.out.kept ht.kept (by omega) (by decide)
       obtain⟨q0,q1⟩:=hp5.facts
       have s5:=hb5.c
       have hO5: ((O ++o) ++o2).length≤1000000:=by have:=HOA.out;rw[List.length_append];omega
       clear ht hp5 hb5
       go_wp2_with fail
       refine(put_any HC5.out.rd (HC5.out.size hB) hO5 _ _ _ _ _ _ _ _ _ _ _).mono ?_
       rintro e w7 ⟨rfl,ov7,hp⟩
       have HF:=Lh (show CTook w w7 B b lv T a2 prop ov7 (O ++ (o ++o2 ++ [item 18 x])) 0 l5 c5 by
        have:=HC5.out.trans hp
        rw[List.append_assoc,List.append_assoc] at this
        rw[List.append_assoc];exact this)
       clear hp
       go_wp2
       go_ret
       exact CRes.ok (HU.out.trans (also_of_ok HE2.out)) rfl HF.out
theorem both_any:∀ n,n≤25→SignOK n∧FormOK n
 | 0,_=>⟨sign_zero,form_any 0 sign_zero (fun m h=>by omega) (by omega)⟩
 | n+1,h=>by
   have ih:=both_any n (by omega)
   have hs:=sign_succ n (by omega) ih.2 ih.1
   exact⟨hs,form_any (n+1) hs (fun m e=>by cases e;exact ih.2) h⟩
def readP (T:List Tk) (prop:Bool) (i:Int):PR:=
 match (bothP T prop 25).2 i with
 | .ok o a=>if 64 < o.length then .bad 3 (tkAt T i).line (tkAt T i).col else .ok o a
 | .bad e l c=>.bad e l c
def ReadPost (w:World) (p:PR) (e:Ending) (w':World):Prop:=
 match p with
 | .ok o a=>∃ v,e=.returned (.tuple #[v,.int .i64 a,.agg #[.int .i64 0,.int .i64 0,.int .i64 0]])∧w'.ownsRow w.heap.size 87 9 v o.length (itFlat o)∧Below w.heap.size w w'
 | .bad er l c=>e=.returned (.tuple #[.slice none 0 0,.int .i64 0,.agg #[.int .i64 er,.int .i64 l,.int .i64 c]])∧Below w.heap.size w w'
def FtB (w:World) (b:Nat) (e l c:Int):Prop:=w.heap[b]?=some (.cells #[.int .i64 e,.int .i64 l,.int .i64 c] 28 (0,0))
theorem FtB.facts {w:World} {b:Nat} {e l c:Int} (h:FtB w b e l c):w.cell? ⟨b,0,none⟩ = some (.int .i64 e)∧w.cell? ⟨b,1,none⟩ = some (.int .i64 l)∧w.cell? ⟨b,2,none⟩ = some (.int .i64 c):=by
 unfold FtB at h
 refine⟨?_,?_,?_⟩ <;> simp[World.cell?,h]
theorem FtB.free {w:World} {b:Nat} {e l c:Int} (h:FtB w b e l c):w.frozen? ⟨b,0,none⟩ = false∧w.frozen? ⟨b,1,none⟩ = false∧w.frozen? ⟨b,2,none⟩ = false:=by
 unfold FtB at h
 refine⟨?_,?_,?_⟩ <;> simp[World.frozen?,h]
theorem FtB.lt {w:World} {b:Nat} {e l c:Int} (h:FtB w b e l c):b < w.heap.size:=(Array.getElem?_eq_some_iff.1 h).1
theorem FtB.below {w w':World} {b:Nat} {e l c:Int} (h:FtB w b e l c) (hb:Below w.heap.size w w'):FtB w' b e l c:=(hb.block b h.lt).trans h
theorem FtB.alloc {w:World} {b:Nat} {e l c:Int} (h:FtB w b e l c) (o:Obj):FtB (w.alloc o) b e l c:=(Below.heap_alloc _ _ _ h.lt).trans h
theorem FtB.drew {w:World} {b:Nat} {e l c:Int} (h:FtB w b e l c):FtB w.drew b e l c:=h
theorem FtB.kept {w w':World} {b k:Nat} {e l c:Int} (h:FtB w k e l c) (ht:Lib.OthersKept 87 (some b) w w') (hkb:k≠b):FtB w' k e l c:=
 ht k _ h (fun e=>hkb (Option.some.inj e)) (fun c fz e=>by simp at e)
theorem FtB.stored {w:World} {b:Nat} {e l c:Int} (h:FtB w b e l c) (e2 l2 c2:Int):FtB (((w.setCell ⟨b,0,none⟩ (.int .i64 e2)).setCell ⟨b,1,none⟩ (.int .i64 l2)).setCell ⟨b,2,none⟩ (.int .i64 c2)) b e2 l2 c2:=
 heap_setCell_same _ b 2 _ _ (.int .i64 c2) (heap_setCell_same _ b 1 _ _ (.int .i64 l2) (heap_setCell_same w b 0 _ _ (.int .i64 e2) h))
theorem FtB.row {w:World} {b base n:Nat} {t:TypeId} {sz:Nat} {v:Value} {xs:List Value} {e l c:Int} (h:FtB w b e l c) (hr:w.ownsRow base t sz v n xs) (ht:28≠t) (e2 l2 c2:Int) :
 (((w.setCell ⟨b,0,none⟩ (.int .i64 e2)).setCell ⟨b,1,none⟩ (.int .i64 l2)).setCell ⟨b,2,none⟩ (.int .i64 c2)).ownsRow base t sz v n xs:=
 row_store (row_store (row_store hr h ht _ _) (heap_setCell_same w b 0 _ _ (.int .i64 e2) h) ht _ _) (heap_setCell_same _ b 1 _ _ (.int .i64 l2) (heap_setCell_same w b 0 _ _ (.int .i64 e2) h)) ht _ _
theorem below_fault {w0 w:World} {B k:Nat} (h:Below B w0 w) (hk:B≤k) (a b c:Value):Below B w0 (((w.setCell ⟨k,0,none⟩ a).setCell ⟨k,1,none⟩ b).setCell ⟨k,2,none⟩ c):=
 ((h.setCell (p:=⟨k,0,none⟩) hk _).setCell (p:=⟨k,1,none⟩) hk _).setCell (p:=⟨k,2,none⟩) hk _
theorem read_any {w:World} {v:Value} {T:List Tk} (hT:TkIn w w.heap.size v T) (i:Int) (prop:Bool) (hlo:-9223372036854775808≤i) (hhi:i≤1000000) :
 Calls Tryz.prog 89 #[v,.int .i64 i,.bool prop] w (ReadPost w (readP T prop i)):=by
 have hT0:=hT
 obtain⟨ad,cap,hv,_,_⟩:=hT
 subst hv
 have hb0:Below w.heap.size w ((w.alloc oB3).alloc (.cells #[.slice ad T.length cap,.int .i64 i,.bool prop,.slice none 0 0,.int .i64 0,.int .i64 0,.int .i64 0] 137)):=((Below.refl _ w).alloc (Nat.le_refl _) _).alloc (by simp) _
 have hc:Cr ((w.alloc oB3).alloc (.cells #[.slice ad T.length cap,.int .i64 i,.bool prop,.slice none 0 0,.int .i64 0,.int .i64 0,.int .i64 0] 137)) w.heap.size (w.heap.size+1) (.slice ad T.length cap) T i prop (.slice none 0 0) [] 0 0 0:=
  ⟨heap_at_size _ _ _ (by simp),Nat.le_succ _,TkIn.below hT0 hb0,World.ownsRow_nil _ _ _ _⟩
 have hfb:FtB ((w.alloc oB3).alloc (.cells #[.slice ad T.length cap,.int .i64 i,.bool prop,.slice none 0 0,.int .i64 0,.int .i64 0,.int .i64 0] 137)) w.heap.size 0 0 0:=FtB.alloc (heap_alloc_new w _) _
 have hBs:w.heap.size≤((w.alloc oB3).alloc (.cells #[.slice ad T.length cap,.int .i64 i,.bool prop,.slice none 0 0,.int .i64 0,.int .i64 0,.int .i64 0] 137)).heap.size:=by simp;omega
 obtain⟨x,hx⟩:∃ x,tkAt T i=x:=⟨_,rfl⟩
 have HX:=Lh hx
 have HC:=Lh hc;have HFB:=Lh hfb;have HB0:=Lh hb0;have HBS:=Lh hBs
 have hfd:∀ w:World,(Instr.field 48 (.agg #[.int .i64 x.kind,.string x.text,.int .i64 x.num,.int .i64 x.line,.int .i64 x.col]) 3).run Tryz.prog w=.ok (.agg #[.int .i64 x.line,.int .i64 x.col]) w:=fun _=>by kernel_rfl
 clear hc hfb hb0 hBs hx
 cases hp: (bothP T prop 25).2 i with
 | bad er l c=>
   have HU:Hid (readP T prop i=.bad er l c):=by unfold Hid readP;rw[hp]
   have HE:=Lh hp
   clear hp
   go_enter Tryz.func89,Tryz.ntmps89
   go_wp2_with fail
   refine(now_any HC.out).mono ?_
   rintro e w1 ⟨rfl,hb1⟩
   rw[HX.out]
   unfold tokV
   have HC1:=Lh (((CTook.of_rd HC.out).then hb1 HBS.out).alloc HBS.out (.cells #[.int .i64 x.line,.int .i64 x.col] 26))
   have HF1:=Lh ((HFB.out.below hb1).alloc (.cells #[.int .i64 x.line,.int .i64 x.col] 26))
   clear hb1
   go_wp2_with fail
   refine((both_any 25 (by omega)).2 _ w.heap.size (w.heap.size+1) _ T i prop _ _ 0 0 0 HC1.out.rd (HC1.out.size HBS.out) hlo hhi (by simp;omega) (by omega)).mono ?_
   rw[HE.out]
   rintro e w3 ⟨rfl,ov3,O3,i3,ht⟩
   have hf3:=HF1.out.kept ht.kept (by omega)
   have HT:=Lh (HC1.out.trans ht)
   obtain⟨_,_,_,_,c4,c5,c6⟩:=ht.rd.facts
   obtain⟨q0,q1,q2⟩:=hf3.facts
   obtain⟨z0,z1,z2⟩:=hf3.free
   have hBB:=Lh (HB0.out.trans (HT.out.low))
   clear ht hf3
   go_wp2
   go_region
   go_wp2
   refine bodyPost_ret (v:=.tuple #[.slice none 0 0,.int .i64 0,.agg #[.int .i64 er,.int .i64 l,.int .i64 c]]) (by simp[results,Tryz.results89,go_sem,q0,q1,q2]) rfl ?_
   rw[HU.out]
   exact⟨rfl,(below_fault hBB.out (Nat.le_refl _) _ _ _).drew⟩
 | ok o a=>
   have HE:=Lh hp
   by_cases h64:64 < o.length
   · have HU:Hid (readP T prop i=.bad 3 x.line x.col):=by unfold Hid readP;rw[hp];dsimp only;rw[if_pos h64,HX.out]
     have hz64: (64:Int) < (o.length:Int):=by omega
     clear hp
     go_enter Tryz.func89,Tryz.ntmps89
     go_wp2_with fail
     refine(now_any HC.out).mono ?_
     rintro e w1 ⟨rfl,hb1⟩
     rw[HX.out]
     unfold tokV
     have HC1:=Lh (((CTook.of_rd HC.out).then hb1 HBS.out).alloc HBS.out (.cells #[.int .i64 x.line,.int .i64 x.col] 26))
     have HF1:=Lh ((HFB.out.below hb1).alloc (.cells #[.int .i64 x.line,.int .i64 x.col] 26))
     have HP1:=Lh (show PsB (w1.alloc (.cells #[.int .i64 x.line,.int .i64 x.col] 26)) w1.heap.size x.line x.col from heap_alloc_new w1 _)
     have hs1:=hb1.size
     simp only[World.size_alloc] at hs1
     clear hb1
     go_wp2_with fail
     refine((both_any 25 (by omega)).2 _ w.heap.size (w.heap.size+1) _ T i prop _ _ 0 0 0 HC1.out.rd (HC1.out.size HBS.out) hlo hhi (by simp;omega) (by omega)).mono ?_
     rw[HE.out]
     rintro e w3 ⟨rfl,ov3,l3,c3,ht⟩
     have hf3:=HF1.out.kept ht.kept (by omega)
     have hp3:=HP1.out.kept ht.kept (by omega)
     have HT:=Lh (HC1.out.trans ht)
     obtain⟨ad3,cap3,hov⟩:=owns_len ht.rd.out
     rw[List.nil_append] at hov
     obtain⟨_,_,_,c3',_,_,_⟩:=ht.rd.facts
     rw[hov] at c3'
     obtain⟨q0,q1,q2⟩:=hf3.facts
     obtain⟨z0,z1,z2⟩:=hf3.free
     obtain⟨p0,p1⟩:=hp3.facts
     have hBB:=Lh (HB0.out.trans (HT.out.low))
     clear ht hf3 hp3 hov
     go_wp2
     go_region
     go_wp2
     refine bodyPost_ret (v:=.tuple #[.slice none 0 0,.int .i64 0,.agg #[.int .i64 3,.int .i64 x.line,.int .i64 x.col]]) (by simp[results,Tryz.results89,go_sem,q0,q1,q2]) rfl ?_
     rw[HU.out]
     exact⟨rfl,(below_fault hBB.out (Nat.le_refl _) _ _ _).drew⟩
   · have HU:Hid (readP T prop i=.ok o a):=by unfold Hid readP;rw[hp];dsimp only;rw[if_neg h64]
     have hz64:¬(64:Int) < (o.length:Int):=by omega
     clear hp
     go_enter Tryz.func89,Tryz.ntmps89
     go_wp2_with fail
     refine(now_any HC.out).mono ?_
     rintro e w1 ⟨rfl,hb1⟩
     rw[HX.out]
     unfold tokV
     have HC1:=Lh (((CTook.of_rd HC.out).then hb1 HBS.out).alloc HBS.out (.cells #[.int .i64 x.line,.int .i64 x.col] 26))
     have HF1:=Lh ((HFB.out.below hb1).alloc (.cells #[.int .i64 x.line,.int .i64 x.col] 26))
     clear hb1
     go_wp2_with fail
     refine((both_any 25 (by omega)).2 _ w.heap.size (w.heap.size+1) _ T i prop _ _ 0 0 0 HC1.out.rd (HC1.out.size HBS.out) hlo hhi (by simp;omega) (by omega)).mono ?_
     rw[HE.out]
     rintro e w3 ⟨rfl,ov3,l3,c3,ht⟩
     have hf3:=HF1.out.kept ht.kept (by omega)
     have HT:=Lh (HC1.out.trans ht)
     obtain⟨ad3,cap3,hov⟩:=owns_len ht.rd.out
     rw[List.nil_append] at hov
     have HOW:=Lh (hf3.row ht.rd.out (by decide) 0 0 0)
     obtain⟨_,c1',_,c3',_,_,_⟩:=ht.rd.facts
     subst hov
     obtain⟨q0,q1,q2⟩:=hf3.facts
     obtain⟨z0,z1,z2⟩:=hf3.free
     have hBB:=Lh (HB0.out.trans (HT.out.low))
     have hne:w.heap.size≠w.heap.size+1:=by omega
     clear ht hf3
     go_wp2
     first
     | (go_region_held3 (fun w'=>w'.cell? ⟨w.heap.size+1,3,none⟩ = some (.slice ad3 o.length cap3)∧w'.cell? ⟨w.heap.size+1,1,none⟩ = some (.int .i64 a))
         (first|go_keep| (refine⟨?_,?_⟩ <;> (first|assumption|go_keep)))
         (fail))
     | fail
     all_goals
      go_wp2
      refine bodyPost_ret (v:=.tuple #[.slice ad3 o.length cap3,.int .i64 a,.agg #[.int .i64 0,.int .i64 0,.int .i64 0]]) (by simp[results,Tryz.results89,go_sem,q0,q1,q2]) rfl ?_
      rw[HU.out]
      exact⟨_,rfl,HOW.out.drew,(below_fault hBB.out (Nat.le_refl _) _ _ _).drew⟩
structure St where
 kind:Int
 name:ByteArray
 line:Int
 col:Int
 init:Int
 names:List ByteArray
 role:ByteArray
 stage:ByteArray
 event:ByteArray
 times:Int
 ifs:List It
 final:Bool
def noSt:St:=⟨0,⟨#[]⟩,0,0,0,[],⟨#[]⟩,⟨#[]⟩,⟨#[]⟩,0,[],false⟩
structure RS where
 i:Int
 x:St
 er:Int
 line:Int
 col:Int
def failD (T:List Tk) (e:Int) (r:RS):RS:=if r.er=0 then{ r with er:=e,line:=(tkAt T r.i).line,col:=(tkAt T r.i).col } else r
def mayB (T:List Tk) (k:Int) (s:ByteArray) (r:RS):Bool:=decide (r.er=0) && isTk T r.i k s
def mayD (T:List Tk) (k:Int) (s:ByteArray) (r:RS):RS:=if mayB T k s r then{ r with i:=r.i+1 } else r
def needD (T:List Tk) (k:Int) (s:ByteArray) (r:RS):RS:=if mayB T k s r then{ r with i:=r.i+1 } else failD T 4 r
def kindB (T:List Tk) (k:Int) (r:RS):Bool:=decide ((tkAt T r.i).kind=k) && decide (r.er=0)
def takeD (T:List Tk) (k:Int) (r:RS):RS:=if kindB T k r then{ r with i:=r.i+1 } else if(tkAt T r.i).kind=k then r else failD T 4 r
def nameV (T:List Tk) (r:RS):ByteArray:=if kindB T 1 r then(tkAt T r.i).text else⟨#[]⟩
def numW (T:List Tk) (r:RS):Int:=if kindB T 3 r then(tkAt T r.i).num else 0
def nameD (T:List Tk) (r:RS):RS:=takeD T 1 r
def numD (T:List Tk) (r:RS):RS:=takeD T 3 r
def setName (s:ByteArray) (r:RS):RS:={ r with x:={ r.x with name:=s } }
def setInit (n:Int) (r:RS):RS:={ r with x:={ r.x with init:=n } }
def setNames (l:List ByteArray) (r:RS):RS:={ r with x:={ r.x with names:=l } }
def setRole (s:ByteArray) (r:RS):RS:={ r with x:={ r.x with role:=s } }
def setStage (s:ByteArray) (r:RS):RS:={ r with x:={ r.x with stage:=s } }
def setEvent (s:ByteArray) (r:RS):RS:={ r with x:={ r.x with event:=s } }
def setTimes (n:Int) (r:RS):RS:={ r with x:={ r.x with times:=n } }
def setFinal (b:Bool) (r:RS):RS:={ r with x:={ r.x with final:=b } }
def wIn:ByteArray:=⟨#[105,110]⟩
def wBy:ByteArray:=⟨#[98,121]⟩
def wSets:ByteArray:=⟨#[115,101,116,115]⟩
def wMax:ByteArray:=⟨#[109,97,120]⟩
def wOn:ByteArray:=⟨#[111,110]⟩
def wIf:ByteArray:=⟨#[105,102]⟩
def wOf:ByteArray:=⟨#[111,102]⟩
def wFinal:ByteArray:=⟨#[102,105,110,97,108]⟩
def sEq:ByteArray:=⟨#[61]⟩
def sComma:ByteArray:=⟨#[44]⟩
def sSemi:ByteArray:=⟨#[59]⟩
def kindL:List ByteArray:=[⟨#[97,116,116,114]⟩,⟨#[117,115,101,114]⟩,⟨#[114,111,108,101]⟩,⟨#[115,116,97,103,101]⟩,⟨#[101,118,101,110,116]⟩,⟨#[103,117,97,114,100]⟩,⟨#[109,105,108,101,115,116,111,110,101]⟩,⟨#[115,111,100]⟩]
def kindN (s:ByteArray):Int:=
 if s= ⟨#[97,116,116,114]⟩ then 1 else if s= ⟨#[117,115,101,114]⟩ then 2 else if s= ⟨#[114,111,108,101]⟩ then 3 else if s= ⟨#[115,116,97,103,101]⟩ then 4 else if s= ⟨#[101,118,101,110,116]⟩ then 5 else if s= ⟨#[103,117,97,114,100]⟩ then 6 else if s= ⟨#[109,105,108,101,115,116,111,110,101]⟩ then 7 else if s= ⟨#[115,111,100]⟩ then 8 else 0
def attrD (T:List Tk) (r:RS):RS:=
 let r1:=setName (nameV T r) (nameD T r)
 let r2:=needD T 4 sEq r1
 setInit (numW T r2) (numD T r2)
def userD (T:List Tk) (r:RS):RS:=setName (nameV T r) (nameD T r)
def moreD (T:List Tk) (r:RS):RS:=setNames (r.x.names ++ [nameV T r]) (nameD T r)
def roleL (T:List Tk):Nat→RS→RS
 | 0,r=>r
 | k+1,r=>if kindB T 1 r then roleL T k (moreD T r) else r
def roleD (T:List Tk) (r:RS):RS:=
 let r1:=setName (nameV T r) (nameD T r)
 let r2:=moreD T (needD T 4 sEq r1)
 roleL T (T.length+1) r2
def stageD (T:List Tk) (r:RS):RS:=
 let r1:=setName (nameV T r) (nameD T r)
 if mayB T 2 wIn r1 then setStage (nameV T (mayD T 2 wIn r1)) (nameD T (mayD T 2 wIn r1)) else r1
def timesD (T:List Tk) (r:RS):RS:=
 let r1:=if(tkAt T r.i).kind=3∧((tkAt T r.i).num < 1∨3 < (tkAt T r.i).num) then failD T 11 r else r
 setTimes (numW T r1) (numD T r1)
def setsL (T:List Tk):Nat→RS→RS
 | 0,r=>r
 | k+1,r=>if mayB T 4 sComma r then setsL T k (moreD T (mayD T 4 sComma r)) else r
def eventD (T:List Tk) (r:RS):RS:=
 let r1:=setName (nameV T r) (nameD T r)
 let r2:=needD T 2 wBy r1
 let r3:=setRole (nameV T r2) (nameD T r2)
 let r4:=needD T 2 wIn r3
 let r5:=setStage (nameV T r4) (nameD T r4)
 let r6:=if mayB T 2 wSets r5 then setsL T (T.length+1) (moreD T (mayD T 2 wSets r5)) else r5
 if mayB T 2 wMax r6 then timesD T (mayD T 2 wMax r6) else r6
def setIf (l:List It) (a:Int) (r:RS):RS:={ r with i:=a,x:={ r.x with ifs:=l } }
def setBad (e l c:Int) (r:RS):RS:={ r with er:=e,line:=l,col:=c }
def onD (T:List Tk) (r:RS):RS:=if mayB T 2 wOn r then setEvent (nameV T (mayD T 2 wOn r)) (nameD T (mayD T 2 wOn r)) else r
def ifD (T:List Tk) (r:RS):RS:=match readP T false r.i with
 | .ok o a=>setIf o a r
 | .bad e l c=>setBad e l c r
def sentryD (T:List Tk) (r:RS):RS:=if mayB T 2 wIf (onD T r) then ifD T (mayD T 2 wIf (onD T r)) else onD T r
def guardD (T:List Tk) (r:RS):RS:=sentryD T (setStage (nameV T r) (nameD T r))
def mileD (T:List Tk) (r:RS):RS:=
 let r1:=setName (nameV T r) (nameD T r)
 let r2:=needD T 2 wOf r1
 let r3:=sentryD T (setStage (nameV T r2) (nameD T r2))
 setFinal (mayB T 2 wFinal r3) (mayD T 2 wFinal r3)
def sodD (T:List Tk) (r:RS):RS:=
 let r1:=nameD T r
 let r2:=needD T 4 sComma r1
 setNames [nameV T r,nameV T r2] (nameD T r2)
def ruleD (T:List Tk) (k:Int) (r:RS):RS:=
 if k=1 then attrD T r else if k=2 then userD T r else if k=3 then roleD T r else if k=4 then stageD T r else if k=5 then eventD T r else if k=6 then guardD T r else if k=7 then mileD T r else sodD T r
inductive DR where
 | ok (x:St) (at_:Int)
 | bad (er line col:Int)
def startD (T:List Tk) (i:Int):RS:=⟨i+1,{ noSt with kind:=kindN (tkAt T i).text,line:=(tkAt T i).line,col:=(tkAt T i).col },0,0,0⟩
def oneD (T:List Tk) (i:Int):DR:=
 if(tkAt T i).kind≠2∨kindN (tkAt T i).text=0 then .bad 4 (tkAt T i).line (tkAt T i).col
 else
  let r:=needD T 4 sSemi (ruleD T (kindN (tkAt T i).text) (startD T i))
  if r.er=0 then .ok r.x r.i else .bad r.er r.line r.col
inductive SR where
 | ok (l:List St)
 | bad (er line col:Int)
def readS (T:List Tk):Nat→Int→List St→SR
 | 0,_,out=>.ok out
 | k+1,i,out=>if(tkAt T i).kind=5 then .ok out else match oneD T i with
   | .ok x a=>readS T k a (out ++ [x])
   | .bad e l c=>.bad e l c
def Good3 (one:Int→PR):Prop:=∀ i e l c,one i=.bad e l c→e≠0
theorem also_no {p:PR} {f:List It→Int→PR} {e l c:Int} (h:p.also f=.bad e l c):p=.bad e l c∨∃ o1 a1,p=.ok o1 a1∧f o1 a1=.bad e l c:=by
 cases p with
 | ok o1 a1=>exact .inr ⟨o1,a1,rfl,h⟩
 | bad er l' c'=>exact .inl h
theorem badP_no {T:List Tk} {i er e l c:Int} (h:badP T i er=.bad e l c) (h0:er≠0):e≠0:=by
 unfold badP at h
 simp only[PR.bad.injEq] at h
 omega
theorem need_no {T:List Tk} {i kind:Int} {s:ByteArray} {f:Int→PR} {e l c:Int} (h:needP T i kind s f=.bad e l c):e≠0∨f (i+1)=.bad e l c:=by
 unfold needP at h
 split at h
 · exact .inr h
 · exact .inl (badP_no h (by decide))
theorem rowP_no {T:List Tk} {one:Int→PR} (h:Good3 one) (wd:ByteArray) (op:Int):∀ (k:Nat) (i:Int) (out:List It) (e l c:Int),rowP T one wd op k i out=.bad e l c→e≠0
 | 0,i,out,e,l,c,he=>by cases he
 | k+1,i,out,e,l,c,he=>by
   rw[rowP] at he
   split at he
   · rcases also_no he with he| ⟨o1,a1,_,he⟩
     · exact h _ _ _ _ he
     · exact rowP_no h wd op k _ _ _ _ _ he
   · cases he
theorem rowsP_no {T:List Tk} {one:Int→PR} (h:Good3 one) (wd:ByteArray) (op:Int):Good3 (rowsP T one wd op):=by
 intro i e l c he
 rcases also_no he with he| ⟨o1,a1,_,he⟩
 · exact h _ _ _ _ he
 · exact rowP_no h wd op _ _ _ _ _ _ he
theorem compP_no (T:List Tk):Good3 (compP T):=by
 intro i e l c he
 unfold compP at he
 repeat' split at he
 all_goals first|exact badP_no he (by decide)|cases he
theorem namedP_no (T:List Tk) (i op e l c:Int) (he:namedP T i op=.bad e l c):e≠0:=by
 unfold namedP at he
 split at he
 · cases he
 · exact badP_no he (by decide)
theorem didP_no (T:List Tk) (i e l c:Int) (he:didP T i=.bad e l c):e≠0:=by
 unfold didP at he
 repeat' split at he
 all_goals first|exact badP_no he (by decide)|cases he
theorem atomP_no (T:List Tk) (prop:Bool) (i e l c:Int) (he:atomP T prop i=.bad e l c):e≠0:=by
 unfold atomP at he
 repeat' split at he
 all_goals first|exact badP_no he (by decide)|exact namedP_no _ _ _ _ _ _ he|exact didP_no _ _ _ _ _ he|cases he
theorem untilP_no {T:List Tk} {form:Int→PR} (h:Good3 form) (op i e l c:Int) (he:untilP T form op i=.bad e l c):e≠0:=by
 unfold untilP at he
 rcases need_no he with he|he
 · exact he
 rcases also_no he with he| ⟨o1,a1,_,he⟩
 · exact h _ _ _ _ he
 rcases need_no he with he|he
 · exact he
 rcases also_no he with he| ⟨o2,a2,_,he⟩
 · exact h _ _ _ _ he
 rcases need_no he with he|he
 · exact he
 cases he
theorem signP_no {T:List Tk} {prop:Bool} {sg form:Int→PR} (hs:Good3 sg) (hf:Good3 form):Good3 (signP T prop sg form):=by
 intro i e l c he
 unfold signP at he
 split at he
 · rcases also_no he with he| ⟨o1,a1,_,he⟩
   · exact hf _ _ _ _ he
   rcases need_no he with he|he
   · exact he
   cases he
 split at he
 · exact compP_no T i e l c he
 split at he
 · rcases also_no he with he| ⟨o1,a1,_,he⟩
   · exact hs _ _ _ _ he
   cases he
 split at he
 · exact badP_no he (by decide)
 split at he
 · exact untilP_no hf _ _ _ _ _ he
 split at he
 · exact untilP_no hf _ _ _ _ _ he
 split at he
 · exact atomP_no T prop i e l c he
 · rcases also_no he with he| ⟨o1,a1,_,he⟩
   · exact hs _ _ _ _ he
   cases he
theorem formP_no {T:List Tk} {sg form:Int→PR} (hs:Good3 sg) (hf:Good3 form):Good3 (formP T sg form):=by
 intro i e l c he
 unfold formP at he
 rcases also_no he with he| ⟨o1,a1,_,he⟩
 · exact rowsP_no (rowsP_no hs wAnd 16) wOr 17 _ _ _ _ he
 split at he
 · rcases also_no he with he| ⟨o2,a2,_,he⟩
   · exact hf _ _ _ _ he
   cases he
 · cases he
theorem both_no (T:List Tk) (prop:Bool):∀ n,Good3 (bothP T prop n).1∧Good3 (bothP T prop n).2
 | 0=>⟨fun i e l c h=>badP_no (show badP T i 5=.bad e l c from h) (by decide),fun i e l c h=>badP_no (show badP T i 5=.bad e l c from h) (by decide)⟩
 | n+1=>by
   have ih:=both_no T prop n
   have hs:=signP_no (T:=T) (prop:=prop) ih.1 ih.2
   exact⟨hs,formP_no hs ih.2⟩
def InD (T:List Tk) (r:RS):Prop:=0≤r.i∧r.i≤(T.length:Int)
theorem mayB_is {T:List Tk} {k:Int} {s:ByteArray} {r:RS} (h:mayB T k s r=true):r.er=0∧isTk T r.i k s=true:=by
 unfold mayB at h
 simp only[Bool.and_eq_true,decide_eq_true_eq] at h
 exact h
theorem kindB_is {T:List Tk} {k:Int} {r:RS} (h:kindB T k r=true):r.er=0∧(tkAt T r.i).kind=k:=by
 unfold kindB at h
 simp only[Bool.and_eq_true,decide_eq_true_eq] at h
 exact⟨h.2,h.1⟩
theorem failD_i (T:List Tk) (e:Int) (r:RS): (failD T e r).i=r.i∧(failD T e r).x=r.x:=by
 unfold failD;split <;> exact⟨rfl,rfl⟩
theorem failD_er (T:List Tk) {e:Int} (he:e≠0) (r:RS): (failD T e r).er≠0:=by
 unfold failD;split
 · exact he
 · rename_i h;exact h
theorem InD.fail {T:List Tk} {r:RS} (h:InD T r) (e:Int):InD T (failD T e r):=by unfold InD;rw[(failD_i T e r).1];exact h
theorem InD.may {T:List Tk} {r:RS} (h:InD T r) (k:Int) (s:ByteArray) (hk:k≠5):InD T (mayD T k s r):=by
 unfold mayD
 split
 · rename_i q
   have:=isTk_in (mayB_is q).2 hk
   unfold InD;dsimp only;omega
 · exact h
theorem InD.need {T:List Tk} {r:RS} (h:InD T r) (k:Int) (s:ByteArray) (hk:k≠5):InD T (needD T k s r):=by
 unfold needD
 split
 · rename_i q
   have:=isTk_in (mayB_is q).2 hk
   unfold InD;dsimp only;omega
 · exact h.fail 4
theorem InD.take {T:List Tk} {r:RS} (h:InD T r) (k:Int) (hk:k≠5):InD T (takeD T k r):=by
 unfold takeD
 split
 · rename_i q
   have:=tkAt_in (T:=T) (i:=r.i) (by rw[(kindB_is q).2];exact hk)
   unfold InD;dsimp only;omega
 · split
   · exact h
   · exact h.fail 4
theorem InD.name {T:List Tk} {r:RS} (h:InD T r):InD T (nameD T r):=h.take 1 (by decide)
theorem InD.num {T:List Tk} {r:RS} (h:InD T r):InD T (numD T r):=h.take 3 (by decide)
theorem may_x (T:List Tk) (k:Int) (s:ByteArray) (r:RS): (mayD T k s r).x=r.x:=by unfold mayD;split <;> rfl
theorem need_x (T:List Tk) (k:Int) (s:ByteArray) (r:RS): (needD T k s r).x=r.x:=by
 unfold needD;split
 · rfl
 · exact(failD_i T 4 r).2
theorem take_x (T:List Tk) (k:Int) (r:RS): (takeD T k r).x=r.x:=by
 unfold takeD;split
 · rfl
 · split
   · rfl
   · exact(failD_i T 4 r).2
theorem may_up (T:List Tk) (k:Int) (s:ByteArray) (r:RS):r.i≤(mayD T k s r).i:=by
 unfold mayD;split
 · dsimp only;omega
 · exact Int.le_refl _
theorem need_up (T:List Tk) (k:Int) (s:ByteArray) (r:RS):r.i≤(needD T k s r).i:=by
 unfold needD;split
 · dsimp only;omega
 · rw[(failD_i T 4 r).1];exact Int.le_refl _
theorem take_up (T:List Tk) (k:Int) (r:RS):r.i≤(takeD T k r).i:=by
 unfold takeD;split
 · dsimp only;omega
 · split
   · exact Int.le_refl _
   · rw[(failD_i T 4 r).1];exact Int.le_refl _
theorem take_next {T:List Tk} {k:Int} {r:RS} (h:kindB T k r=true): (takeD T k r).i=r.i+1:=by unfold takeD;rw[if_pos h]
theorem may_next {T:List Tk} {k:Int} {s:ByteArray} {r:RS} (h:mayB T k s r=true): (mayD T k s r).i=r.i+1:=by unfold mayD;rw[if_pos h]
end Go.Proofs.YthlofmnmacpogaaGreatDoor
