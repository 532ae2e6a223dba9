/- A part of a proof: 'warder/warderlaw07.DeclOnes' returns true for every input and leaves its arguments as they were; no condition. The row lists package-level variables of Go's library with what they hold at the start; the card ties them to the program's text. -/
import Derived.Test.YthlofmnmacpogaaGreatDoorOn06
namespace Go.Proofs.YthlofmnmacpogaaGreatDoor
open Go.RowKit
def readP (T:List Tk) (prop:Bool) (i:Int):PR:=
 match (bothP T prop 25).2 i with
 | .ok o a=>if 64 < o.length then .bad 3 (tkAt T i).line (tkAt T i).col else .ok o a
 | .bad e l c=>.bad e l c
def ReadPost (w:World) (p:PR) (e:Ending) (w':World):Prop:=
 match p with
 | .ok o a=>∃ v,e=.returned (.tuple #[v,.int .i64 a,.agg #[.int .i64 0,.int .i64 0,.int .i64 0]])∧w'.ownsRow w.heap.size 87 9 v o.length (itFlat o)∧Below w.heap.size w w'
 | .bad er l c=>e=.returned (.tuple #[.slice none 0 0,.int .i64 0,.agg #[.int .i64 er,.int .i64 l,.int .i64 c]])∧Below w.heap.size w w'
def FtB (w:World) (b:Nat) (e l c:Int):Prop:=w.heap[b]?=some (.cells #[.int .i64 e,.int .i64 l,.int .i64 c] 28 (0,0))
theorem FtB.facts {w:World} {b:Nat} {e l c:Int} (h:FtB w b e l c):w.cell? ⟨b,0,none⟩ = some (.int .i64 e)∧w.cell? ⟨b,1,none⟩ = some (.int .i64 l)∧w.cell? ⟨b,2,none⟩ = some (.int .i64 c):=by
 unfold FtB at h
 refine⟨?_,?_,?_⟩ <;> simp[World.cell?,h]
theorem FtB.free {w:World} {b:Nat} {e l c:Int} (h:FtB w b e l c):w.frozen? ⟨b,0,none⟩ = false∧w.frozen? ⟨b,1,none⟩ = false∧w.frozen? ⟨b,2,none⟩ = false:=by
 unfold FtB at h
 refine⟨?_,?_,?_⟩ <;> simp[World.frozen?,h]
theorem FtB.lt {w:World} {b:Nat} {e l c:Int} (h:FtB w b e l c):b < w.heap.size:=(Array.getElem?_eq_some_iff.1 h).1
theorem FtB.below {w w':World} {b:Nat} {e l c:Int} (h:FtB w b e l c) (hb:Below w.heap.size w w'):FtB w' b e l c:=(hb.block b h.lt).trans h
theorem FtB.alloc {w:World} {b:Nat} {e l c:Int} (h:FtB w b e l c) (o:Obj):FtB (w.alloc o) b e l c:=(Below.heap_alloc _ _ _ h.lt).trans h
theorem FtB.drew {w:World} {b:Nat} {e l c:Int} (h:FtB w b e l c):FtB w.drew b e l c:=h
theorem FtB.kept {w w':World} {b k:Nat} {e l c:Int} (h:FtB w k e l c) (ht:Lib.OthersKept 87 (some b) w w') (hkb:k≠b):FtB w' k e l c:=
 ht k _ h (fun e=>hkb (Option.some.inj e)) (fun c fz e=>by simp at e)
theorem FtB.stored {w:World} {b:Nat} {e l c:Int} (h:FtB w b e l c) (e2 l2 c2:Int):FtB (((w.setCell ⟨b,0,none⟩ (.int .i64 e2)).setCell ⟨b,1,none⟩ (.int .i64 l2)).setCell ⟨b,2,none⟩ (.int .i64 c2)) b e2 l2 c2:=
 heap_setCell_same _ b 2 _ _ (.int .i64 c2) (heap_setCell_same _ b 1 _ _ (.int .i64 l2) (heap_setCell_same w b 0 _ _ (.int .i64 e2) h))
theorem FtB.row {w:World} {b base n:Nat} {t:TypeId} {sz:Nat} {v:Value} {xs:List Value} {e l c:Int} (h:FtB w b e l c) (hr:w.ownsRow base t sz v n xs) (ht:28≠t) (e2 l2 c2:Int) :
 (((w.setCell ⟨b,0,none⟩ (.int .i64 e2)).setCell ⟨b,1,none⟩ (.int .i64 l2)).setCell ⟨b,2,none⟩ (.int .i64 c2)).ownsRow base t sz v n xs:=
 row_store (row_store (row_store hr h ht _ _) (heap_setCell_same w b 0 _ _ (.int .i64 e2) h) ht _ _) (heap_setCell_same _ b 1 _ _ (.int .i64 l2) (heap_setCell_same w b 0 _ _ (.int .i64 e2) h)) ht _ _
theorem below_fault {w0 w:World} {B k:Nat} (h:Below B w0 w) (hk:B≤k) (a b c:Value):Below B w0 (((w.setCell ⟨k,0,none⟩ a).setCell ⟨k,1,none⟩ b).setCell ⟨k,2,none⟩ c):=
 ((h.setCell (p:=⟨k,0,none⟩) hk _).setCell (p:=⟨k,1,none⟩) hk _).setCell (p:=⟨k,2,none⟩) hk _
set_option maxRecDepth 100000 in
set_option maxHeartbeats 2000000 in
theorem read_any {w:World} {v:Value} {T:List Tk} (hT:TkIn w w.heap.size v T) (i:Int) (prop:Bool) (hlo:-9223372036854775808≤i) (hhi:i≤1000000) :
 Calls Tryz.prog 89 #[v,.int .i64 i,.bool prop] w (ReadPost w (readP T prop i)):=by
 have hT0:=hT
 obtain⟨ad,cap,hv,_,_⟩:=hT
 subst hv
 have hb0:Below w.heap.size w ((w.alloc (.cells #[.int .i64 0,.int .i64 0,.int .i64 0] 28)).alloc (.cells #[.slice ad T.length cap,.int .i64 i,.bool prop,.slice none 0 0,.int .i64 0,.int .i64 0,.int .i64 0] 137)):=((Below.refl _ w).alloc (Nat.le_refl _) _).alloc (by simp) _
 have hc:Cr ((w.alloc (.cells #[.int .i64 0,.int .i64 0,.int .i64 0] 28)).alloc (.cells #[.slice ad T.length cap,.int .i64 i,.bool prop,.slice none 0 0,.int .i64 0,.int .i64 0,.int .i64 0] 137)) w.heap.size (w.heap.size+1) (.slice ad T.length cap) T i prop (.slice none 0 0) [] 0 0 0:=
  ⟨heap_at_size _ _ _ (by simp),Nat.le_succ _,TkIn.below hT0 hb0,World.ownsRow_nil _ _ _ _⟩
 have hfb:FtB ((w.alloc (.cells #[.int .i64 0,.int .i64 0,.int .i64 0] 28)).alloc (.cells #[.slice ad T.length cap,.int .i64 i,.bool prop,.slice none 0 0,.int .i64 0,.int .i64 0,.int .i64 0] 137)) w.heap.size 0 0 0:=FtB.alloc (heap_alloc_new w _) _
 have hBs:w.heap.size≤((w.alloc (.cells #[.int .i64 0,.int .i64 0,.int .i64 0] 28)).alloc (.cells #[.slice ad T.length cap,.int .i64 i,.bool prop,.slice none 0 0,.int .i64 0,.int .i64 0,.int .i64 0] 137)).heap.size:=by simp;omega
 obtain⟨x,hx⟩:∃ x,tkAt T i=x:=⟨_,rfl⟩
 have HX:=Lib.hid hx
 have HC:=Lib.hid hc;have HFB:=Lib.hid hfb;have HB0:=Lib.hid hb0;have HBS:=Lib.hid hBs
 have hfd:∀ w:World,(Instr.field 48 (.agg #[.int .i64 x.kind,.string x.text,.int .i64 x.num,.int .i64 x.line,.int .i64 x.col]) 3).run Tryz.prog w=.ok (.agg #[.int .i64 x.line,.int .i64 x.col]) w:=fun _=>by kernel_rfl
 clear hc hfb hb0 hBs hx
 cases hp: (bothP T prop 25).2 i with
 | bad er l c=>
   have HU:Hid (readP T prop i=.bad er l c):=by unfold Hid readP;rw[hp]
   have HE:=Lib.hid hp
   clear hp
   go_enter Tryz.func89,Tryz.ntmps89
   go_wp2_with fail
   refine(now_any HC.out).mono ?_
   rintro e w1 ⟨rfl,hb1⟩
   rw[HX.out]
   unfold tokV
   have HC1:=Lib.hid (((CTook.of_rd HC.out).then hb1 HBS.out).alloc HBS.out (.cells #[.int .i64 x.line,.int .i64 x.col] 26))
   have HF1:=Lib.hid ((HFB.out.below hb1).alloc (.cells #[.int .i64 x.line,.int .i64 x.col] 26))
   clear hb1
   go_wp2_with fail
   refine((both_any 25 (by omega)).2 _ w.heap.size (w.heap.size+1) _ T i prop _ _ 0 0 0 HC1.out.rd (HC1.out.size HBS.out) hlo hhi (by simp;omega) (by omega)).mono ?_
   rw[HE.out]
   rintro e w3 ⟨rfl,ov3,O3,i3,ht⟩
   have hf3:=HF1.out.kept ht.kept (by omega)
   have HT:=Lib.hid (HC1.out.trans ht)
   obtain⟨_,_,_,_,c4,c5,c6⟩:=ht.rd.facts
   obtain⟨q0,q1,q2⟩:=hf3.facts
   obtain⟨z0,z1,z2⟩:=hf3.free
   have hBB:=Lib.hid (HB0.out.trans (HT.out.low))
   clear ht hf3
   go_wp2
   go_region
   go_wp2
   refine bodyPost_ret (v:=.tuple #[.slice none 0 0,.int .i64 0,.agg #[.int .i64 er,.int .i64 l,.int .i64 c]]) (by simp[results,Tryz.results89,go_sem,q0,q1,q2]) rfl ?_
   rw[HU.out]
   exact⟨rfl,(below_fault hBB.out (Nat.le_refl _) _ _ _).drew⟩
 | ok o a=>
   have HE:=Lib.hid hp
   by_cases h64:64 < o.length
   · have HU:Hid (readP T prop i=.bad 3 x.line x.col):=by unfold Hid readP;rw[hp];dsimp only;rw[if_pos h64,HX.out]
     have hz64: (64:Int) < (o.length:Int):=by omega
     clear hp
     go_enter Tryz.func89,Tryz.ntmps89
     go_wp2_with fail
     refine(now_any HC.out).mono ?_
     rintro e w1 ⟨rfl,hb1⟩
     rw[HX.out]
     unfold tokV
     have HC1:=Lib.hid (((CTook.of_rd HC.out).then hb1 HBS.out).alloc HBS.out (.cells #[.int .i64 x.line,.int .i64 x.col] 26))
     have HF1:=Lib.hid ((HFB.out.below hb1).alloc (.cells #[.int .i64 x.line,.int .i64 x.col] 26))
     have HP1:=Lib.hid (show PsB (w1.alloc (.cells #[.int .i64 x.line,.int .i64 x.col] 26)) w1.heap.size x.line x.col from heap_alloc_new w1 _)
     have hs1:=hb1.size
     simp only[World.size_alloc] at hs1
     clear hb1
     go_wp2_with fail
     refine((both_any 25 (by omega)).2 _ w.heap.size (w.heap.size+1) _ T i prop _ _ 0 0 0 HC1.out.rd (HC1.out.size HBS.out) hlo hhi (by simp;omega) (by omega)).mono ?_
     rw[HE.out]
     rintro e w3 ⟨rfl,ov3,l3,c3,ht⟩
     have hf3:=HF1.out.kept ht.kept (by omega)
     have hp3:=HP1.out.kept ht.kept (by omega)
     have HT:=Lib.hid (HC1.out.trans ht)
     obtain⟨ad3,cap3,hov⟩:=owns_len ht.rd.out
     rw[List.nil_append] at hov
     obtain⟨_,_,_,c3',_,_,_⟩:=ht.rd.facts
     rw[hov] at c3'
     obtain⟨q0,q1,q2⟩:=hf3.facts
     obtain⟨z0,z1,z2⟩:=hf3.free
     obtain⟨p0,p1⟩:=hp3.facts
     have hBB:=Lib.hid (HB0.out.trans (HT.out.low))
     clear ht hf3 hp3 hov
     go_wp2
     go_region
     go_wp2
     refine bodyPost_ret (v:=.tuple #[.slice none 0 0,.int .i64 0,.agg #[.int .i64 3,.int .i64 x.line,.int .i64 x.col]]) (by simp[results,Tryz.results89,go_sem,q0,q1,q2]) rfl ?_
     rw[HU.out]
     exact⟨rfl,(below_fault hBB.out (Nat.le_refl _) _ _ _).drew⟩
   · have HU:Hid (readP T prop i=.ok o a):=by unfold Hid readP;rw[hp];dsimp only;rw[if_neg h64]
     have hz64:¬(64:Int) < (o.length:Int):=by omega
     clear hp
     go_enter Tryz.func89,Tryz.ntmps89
     go_wp2_with fail
     refine(now_any HC.out).mono ?_
     rintro e w1 ⟨rfl,hb1⟩
     rw[HX.out]
     unfold tokV
     have HC1:=Lib.hid (((CTook.of_rd HC.out).then hb1 HBS.out).alloc HBS.out (.cells #[.int .i64 x.line,.int .i64 x.col] 26))
     have HF1:=Lib.hid ((HFB.out.below hb1).alloc (.cells #[.int .i64 x.line,.int .i64 x.col] 26))
     clear hb1
     go_wp2_with fail
     refine((both_any 25 (by omega)).2 _ w.heap.size (w.heap.size+1) _ T i prop _ _ 0 0 0 HC1.out.rd (HC1.out.size HBS.out) hlo hhi (by simp;omega) (by omega)).mono ?_
     rw[HE.out]
     rintro e w3 ⟨rfl,ov3,l3,c3,ht⟩
     have hf3:=HF1.out.kept ht.kept (by omega)
     have HT:=Lib.hid (HC1.out.trans ht)
     obtain⟨ad3,cap3,hov⟩:=owns_len ht.rd.out
     rw[List.nil_append] at hov
     have HOW:=Lib.hid (hf3.row ht.rd.out (by decide) 0 0 0)
     obtain⟨_,c1',_,c3',_,_,_⟩:=ht.rd.facts
     subst hov
     obtain⟨q0,q1,q2⟩:=hf3.facts
     obtain⟨z0,z1,z2⟩:=hf3.free
     have hBB:=Lib.hid (HB0.out.trans (HT.out.low))
     have hne:w.heap.size≠w.heap.size+1:=by omega
     clear ht hf3
     go_wp2
     first
     | (go_region_held3 (fun w'=>w'.cell? ⟨w.heap.size+1,3,none⟩ = some (.slice ad3 o.length cap3)∧w'.cell? ⟨w.heap.size+1,1,none⟩ = some (.int .i64 a))
         (first|go_keep| (refine⟨?_,?_⟩ <;> (first|assumption|go_keep)))
         (fail))
     | fail
     all_goals
      go_wp2
      refine bodyPost_ret (v:=.tuple #[.slice ad3 o.length cap3,.int .i64 a,.agg #[.int .i64 0,.int .i64 0,.int .i64 0]]) (by simp[results,Tryz.results89,go_sem,q0,q1,q2]) rfl ?_
      rw[HU.out]
      exact⟨_,rfl,HOW.out.drew,(below_fault hBB.out (Nat.le_refl _) _ _ _).drew⟩
end Go.Proofs.YthlofmnmacpogaaGreatDoor
namespace Go.Proofs.YthlofmnmacpogaaGreatDoor
open Go.RowKit
structure St where
 kind:Int
 name:ByteArray
 line:Int
 col:Int
 init:Int
 names:List ByteArray
 role:ByteArray
 stage:ByteArray
 event:ByteArray
 times:Int
 ifs:List It
 final:Bool
def noSt:St:=⟨0,⟨#[]⟩,0,0,0,[],⟨#[]⟩,⟨#[]⟩,⟨#[]⟩,0,[],false⟩
structure RS where
 i:Int
 x:St
 er:Int
 line:Int
 col:Int
def failD (T:List Tk) (e:Int) (r:RS):RS:=if r.er=0 then{ r with er:=e,line:=(tkAt T r.i).line,col:=(tkAt T r.i).col } else r
def mayB (T:List Tk) (k:Int) (s:ByteArray) (r:RS):Bool:=decide (r.er=0) && isTk T r.i k s
def mayD (T:List Tk) (k:Int) (s:ByteArray) (r:RS):RS:=if mayB T k s r then{ r with i:=r.i+1 } else r
def needD (T:List Tk) (k:Int) (s:ByteArray) (r:RS):RS:=if mayB T k s r then{ r with i:=r.i+1 } else failD T 4 r
def kindB (T:List Tk) (k:Int) (r:RS):Bool:=decide ((tkAt T r.i).kind=k) && decide (r.er=0)
def takeD (T:List Tk) (k:Int) (r:RS):RS:=if kindB T k r then{ r with i:=r.i+1 } else if(tkAt T r.i).kind=k then r else failD T 4 r
def nameV (T:List Tk) (r:RS):ByteArray:=if kindB T 1 r then(tkAt T r.i).text else⟨#[]⟩
def numW (T:List Tk) (r:RS):Int:=if kindB T 3 r then(tkAt T r.i).num else 0
def nameD (T:List Tk) (r:RS):RS:=takeD T 1 r
def numD (T:List Tk) (r:RS):RS:=takeD T 3 r
def setName (s:ByteArray) (r:RS):RS:={ r with x:={ r.x with name:=s } }
def setInit (n:Int) (r:RS):RS:={ r with x:={ r.x with init:=n } }
def setNames (l:List ByteArray) (r:RS):RS:={ r with x:={ r.x with names:=l } }
def setRole (s:ByteArray) (r:RS):RS:={ r with x:={ r.x with role:=s } }
def setStage (s:ByteArray) (r:RS):RS:={ r with x:={ r.x with stage:=s } }
def setEvent (s:ByteArray) (r:RS):RS:={ r with x:={ r.x with event:=s } }
def setTimes (n:Int) (r:RS):RS:={ r with x:={ r.x with times:=n } }
def setFinal (b:Bool) (r:RS):RS:={ r with x:={ r.x with final:=b } }
def wIn:ByteArray:=⟨#[105,110]⟩
def wBy:ByteArray:=⟨#[98,121]⟩
def wSets:ByteArray:=⟨#[115,101,116,115]⟩
def wMax:ByteArray:=⟨#[109,97,120]⟩
def wOn:ByteArray:=⟨#[111,110]⟩
def wIf:ByteArray:=⟨#[105,102]⟩
def wOf:ByteArray:=⟨#[111,102]⟩
def wFinal:ByteArray:=⟨#[102,105,110,97,108]⟩
def sEq:ByteArray:=⟨#[61]⟩
def sComma:ByteArray:=⟨#[44]⟩
def sSemi:ByteArray:=⟨#[59]⟩
def kindL:List ByteArray:=[⟨#[97,116,116,114]⟩,⟨#[117,115,101,114]⟩,⟨#[114,111,108,101]⟩,⟨#[115,116,97,103,101]⟩,⟨#[101,118,101,110,116]⟩,⟨#[103,117,97,114,100]⟩,⟨#[109,105,108,101,115,116,111,110,101]⟩,⟨#[115,111,100]⟩]
def kindN (s:ByteArray):Int:=
 if s= ⟨#[97,116,116,114]⟩ then 1 else if s= ⟨#[117,115,101,114]⟩ then 2 else if s= ⟨#[114,111,108,101]⟩ then 3 else if s= ⟨#[115,116,97,103,101]⟩ then 4 else if s= ⟨#[101,118,101,110,116]⟩ then 5 else if s= ⟨#[103,117,97,114,100]⟩ then 6 else if s= ⟨#[109,105,108,101,115,116,111,110,101]⟩ then 7 else if s= ⟨#[115,111,100]⟩ then 8 else 0
def attrD (T:List Tk) (r:RS):RS:=
 let r1:=setName (nameV T r) (nameD T r)
 let r2:=needD T 4 sEq r1
 setInit (numW T r2) (numD T r2)
def userD (T:List Tk) (r:RS):RS:=setName (nameV T r) (nameD T r)
def moreD (T:List Tk) (r:RS):RS:=setNames (r.x.names ++ [nameV T r]) (nameD T r)
def roleL (T:List Tk):Nat→RS→RS
 | 0,r=>r
 | k+1,r=>if kindB T 1 r then roleL T k (moreD T r) else r
def roleD (T:List Tk) (r:RS):RS:=
 let r1:=setName (nameV T r) (nameD T r)
 let r2:=moreD T (needD T 4 sEq r1)
 roleL T (T.length+1) r2
def stageD (T:List Tk) (r:RS):RS:=
 let r1:=setName (nameV T r) (nameD T r)
 if mayB T 2 wIn r1 then setStage (nameV T (mayD T 2 wIn r1)) (nameD T (mayD T 2 wIn r1)) else r1
def timesD (T:List Tk) (r:RS):RS:=
 let r1:=if(tkAt T r.i).kind=3∧((tkAt T r.i).num < 1∨3 < (tkAt T r.i).num) then failD T 11 r else r
 setTimes (numW T r1) (numD T r1)
def setsL (T:List Tk):Nat→RS→RS
 | 0,r=>r
 | k+1,r=>if mayB T 4 sComma r then setsL T k (moreD T (mayD T 4 sComma r)) else r
def eventD (T:List Tk) (r:RS):RS:=
 let r1:=setName (nameV T r) (nameD T r)
 let r2:=needD T 2 wBy r1
 let r3:=setRole (nameV T r2) (nameD T r2)
 let r4:=needD T 2 wIn r3
 let r5:=setStage (nameV T r4) (nameD T r4)
 let r6:=if mayB T 2 wSets r5 then setsL T (T.length+1) (moreD T (mayD T 2 wSets r5)) else r5
 if mayB T 2 wMax r6 then timesD T (mayD T 2 wMax r6) else r6
def setIf (l:List It) (a:Int) (r:RS):RS:={ r with i:=a,x:={ r.x with ifs:=l } }
def setBad (e l c:Int) (r:RS):RS:={ r with er:=e,line:=l,col:=c }
def onD (T:List Tk) (r:RS):RS:=if mayB T 2 wOn r then setEvent (nameV T (mayD T 2 wOn r)) (nameD T (mayD T 2 wOn r)) else r
def ifD (T:List Tk) (r:RS):RS:=match readP T false r.i with
 | .ok o a=>setIf o a r
 | .bad e l c=>setBad e l c r
def sentryD (T:List Tk) (r:RS):RS:=if mayB T 2 wIf (onD T r) then ifD T (mayD T 2 wIf (onD T r)) else onD T r
def guardD (T:List Tk) (r:RS):RS:=sentryD T (setStage (nameV T r) (nameD T r))
def mileD (T:List Tk) (r:RS):RS:=
 let r1:=setName (nameV T r) (nameD T r)
 let r2:=needD T 2 wOf r1
 let r3:=sentryD T (setStage (nameV T r2) (nameD T r2))
 setFinal (mayB T 2 wFinal r3) (mayD T 2 wFinal r3)
def sodD (T:List Tk) (r:RS):RS:=
 let r1:=nameD T r
 let r2:=needD T 4 sComma r1
 setNames [nameV T r,nameV T r2] (nameD T r2)
def ruleD (T:List Tk) (k:Int) (r:RS):RS:=
 if k=1 then attrD T r else if k=2 then userD T r else if k=3 then roleD T r else if k=4 then stageD T r else if k=5 then eventD T r else if k=6 then guardD T r else if k=7 then mileD T r else sodD T r
inductive DR where
 | ok (x:St) (at_:Int)
 | bad (er line col:Int)
def startD (T:List Tk) (i:Int):RS:=⟨i+1,{ noSt with kind:=kindN (tkAt T i).text,line:=(tkAt T i).line,col:=(tkAt T i).col },0,0,0⟩
def oneD (T:List Tk) (i:Int):DR:=
 if(tkAt T i).kind≠2∨kindN (tkAt T i).text=0 then .bad 4 (tkAt T i).line (tkAt T i).col
 else
  let r:=needD T 4 sSemi (ruleD T (kindN (tkAt T i).text) (startD T i))
  if r.er=0 then .ok r.x r.i else .bad r.er r.line r.col
inductive SR where
 | ok (l:List St)
 | bad (er line col:Int)
def readS (T:List Tk):Nat→Int→List St→SR
 | 0,_,out=>.ok out
 | k+1,i,out=>if(tkAt T i).kind=5 then .ok out else match oneD T i with
   | .ok x a=>readS T k a (out ++ [x])
   | .bad e l c=>.bad e l c
end Go.Proofs.YthlofmnmacpogaaGreatDoor
