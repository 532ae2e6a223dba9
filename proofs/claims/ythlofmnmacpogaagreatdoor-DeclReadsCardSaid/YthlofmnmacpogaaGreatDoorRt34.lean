/- A part of a proof of DeclReadsProof. -/
import Derived.Test.YthlofmnmacpogaaGreatDoorRt33
import Derived.Test.YthlofmnmacpogaaGreatDoorRt19
set_option maxRecDepth 100000
set_option maxHeartbeats 40000000
namespace Go.Proofs.YthlofmnmacpogaaGreatDoor
open Go.RowKit
def pvV (r:RS) (nv iv:Value):Value:=.agg #[.int .i64 r.x.kind,.string r.x.name,.int .i64 r.x.line,.int .i64 r.x.col,.int .i64 r.x.init,nv,.string r.x.role,.string r.x.stage,.string r.x.event,.int .i64 r.x.times,iv,.bool r.x.final,.int .i64 r.i,.int .i64 r.er,.int .i64 r.line,.int .i64 r.col]
theorem pv_is (r:RS) (nv iv:Value):pvV r nv iv=.agg #[.int .i64 r.x.kind,.string r.x.name,.int .i64 r.x.line,.int .i64 r.x.col,.int .i64 r.x.init,nv,.string r.x.role,.string r.x.stage,.string r.x.event,.int .i64 r.x.times,iv,.bool r.x.final,.int .i64 r.i,.int .i64 r.er,.int .i64 r.line,.int .i64 r.col]:=rfl
def SlV (v:Value):Prop:=∃ ad n cap,v=.slice ad n cap
def zeroR:RS:=⟨0,noSt,0,0,0⟩
def PB (w:World) (b:Nat) (r:RS) (nv iv:Value):Prop:=w.heap[b]?=some (.cells #[.int .i64 r.x.kind,.string r.x.name,.int .i64 r.x.line,.int .i64 r.x.col,.int .i64 r.x.init,nv,.string r.x.role,.string r.x.stage,.string r.x.event,.int .i64 r.x.times,iv,.bool r.x.final,.int .i64 r.i,.int .i64 r.er,.int .i64 r.line,.int .i64 r.col] 62 (0,0))
theorem PB.facts {w:World} {b:Nat} {r:RS} {nv iv:Value} (h:PB w b r nv iv):w.cell? ⟨b,0,none⟩ = some (.int .i64 r.x.kind)∧w.cell? ⟨b,1,none⟩ = some (.string r.x.name)∧w.cell? ⟨b,2,none⟩ = some (.int .i64 r.x.line)∧w.cell? ⟨b,3,none⟩ = some (.int .i64 r.x.col)∧w.cell? ⟨b,4,none⟩ = some (.int .i64 r.x.init)∧w.cell? ⟨b,5,none⟩ = some nv∧w.cell? ⟨b,6,none⟩ = some (.string r.x.role)∧w.cell? ⟨b,7,none⟩ = some (.string r.x.stage)∧w.cell? ⟨b,8,none⟩ = some (.string r.x.event)∧w.cell? ⟨b,9,none⟩ = some (.int .i64 r.x.times)∧w.cell? ⟨b,10,none⟩ = some iv∧w.cell? ⟨b,11,none⟩ = some (.bool r.x.final)∧w.cell? ⟨b,12,none⟩ = some (.int .i64 r.i)∧w.cell? ⟨b,13,none⟩ = some (.int .i64 r.er)∧w.cell? ⟨b,14,none⟩ = some (.int .i64 r.line)∧w.cell? ⟨b,15,none⟩ = some (.int .i64 r.col):=by
 unfold PB at h
 refine⟨?_,?_,?_,?_,?_,?_,?_,?_,?_,?_,?_,?_,?_,?_,?_,?_⟩ <;> simp[World.cell?,h]
theorem PB.free {w:World} {b:Nat} {r:RS} {nv iv:Value} (h:PB w b r nv iv):w.frozen? ⟨b,0,none⟩ = false∧w.frozen? ⟨b,1,none⟩ = false∧w.frozen? ⟨b,2,none⟩ = false∧w.frozen? ⟨b,3,none⟩ = false∧w.frozen? ⟨b,4,none⟩ = false∧w.frozen? ⟨b,5,none⟩ = false∧w.frozen? ⟨b,6,none⟩ = false∧w.frozen? ⟨b,7,none⟩ = false∧w.frozen? ⟨b,8,none⟩ = false∧w.frozen? ⟨b,9,none⟩ = false∧w.frozen? ⟨b,10,none⟩ = false∧w.frozen? ⟨b,11,none⟩ = false∧w.frozen? ⟨b,12,none⟩ = false∧w.frozen? ⟨b,13,none⟩ = false∧w.frozen? ⟨b,14,none⟩ = false∧w.frozen? ⟨b,15,none⟩ = false:=by
 unfold PB at h
 refine⟨?_,?_,?_,?_,?_,?_,?_,?_,?_,?_,?_,?_,?_,?_,?_,?_⟩ <;> simp[World.frozen?,h]
theorem PB.lt {w:World} {b:Nat} {r:RS} {nv iv:Value} (h:PB w b r nv iv):b < w.heap.size:=(Array.getElem?_eq_some_iff.1 h).1
theorem PB.below {w:World} {b:Nat} {r:RS} {nv iv:Value} {w':World} (h:PB w b r nv iv) (hb:Below w.heap.size w w'):PB w' b r nv iv:=(hb.block b h.lt).trans h
theorem PB.alloc {w:World} {b:Nat} {r:RS} {nv iv:Value} (h:PB w b r nv iv) (o:Obj):PB (w.alloc o) b r nv iv:=(Below.heap_alloc _ _ _ h.lt).trans h
theorem PB.drew {w:World} {b:Nat} {r:RS} {nv iv:Value} (h:PB w b r nv iv):PB w.drew b r nv iv:=h
theorem PB.over {w:World} {b:Nat} {r:RS} {nv iv:Value} (h:PB w b r nv iv) {k j:Nat} (hne:b≠k) (u:Value):PB (w.setCell ⟨k,j,none⟩ u) b r nv iv:=(Below.heap_setCell _ _ _ _ (by show b≠k;exact hne)).trans h
theorem PB.grown {w:World} {b:Nat} {r:RS} {nv iv:Value} {w':World} {row:Option Nat} (h:PB w b r nv iv) (hg:w.grownBy w' row) (hne:row≠some b):PB w' b r nv iv:=(hg.block b h.lt (Ne.symm hne)).trans h
theorem PB.putK {w:World} {b:Nat} {r:RS} {nv iv:Value} (h:PB w b r nv iv) (v:Int):PB (w.setCell ⟨b,0,none⟩ (.int .i64 v)) b { r with x:={ r.x with kind:=v } } nv iv:=heap_setCell_same w b 0 _ _ _ h
theorem PB.putName {w:World} {b:Nat} {r:RS} {nv iv:Value} (h:PB w b r nv iv) (v:ByteArray):PB (w.setCell ⟨b,1,none⟩ (.string v)) b (setName v r) nv iv:=heap_setCell_same w b 1 _ _ _ h
theorem PB.putInit {w:World} {b:Nat} {r:RS} {nv iv:Value} (h:PB w b r nv iv) (v:Int):PB (w.setCell ⟨b,4,none⟩ (.int .i64 v)) b (setInit v r) nv iv:=heap_setCell_same w b 4 _ _ _ h
theorem PB.putNv {w:World} {b:Nat} {r:RS} {nv iv:Value} (h:PB w b r nv iv) (l:List ByteArray) (v:Value):PB (w.setCell ⟨b,5,none⟩ v) b (setNames l r) v iv:=heap_setCell_same w b 5 _ _ _ h
theorem PB.putRole {w:World} {b:Nat} {r:RS} {nv iv:Value} (h:PB w b r nv iv) (v:ByteArray):PB (w.setCell ⟨b,6,none⟩ (.string v)) b (setRole v r) nv iv:=heap_setCell_same w b 6 _ _ _ h
theorem PB.putStage {w:World} {b:Nat} {r:RS} {nv iv:Value} (h:PB w b r nv iv) (v:ByteArray):PB (w.setCell ⟨b,7,none⟩ (.string v)) b (setStage v r) nv iv:=heap_setCell_same w b 7 _ _ _ h
theorem PB.putEvent {w:World} {b:Nat} {r:RS} {nv iv:Value} (h:PB w b r nv iv) (v:ByteArray):PB (w.setCell ⟨b,8,none⟩ (.string v)) b (setEvent v r) nv iv:=heap_setCell_same w b 8 _ _ _ h
theorem PB.putTimes {w:World} {b:Nat} {r:RS} {nv iv:Value} (h:PB w b r nv iv) (v:Int):PB (w.setCell ⟨b,9,none⟩ (.int .i64 v)) b (setTimes v r) nv iv:=heap_setCell_same w b 9 _ _ _ h
theorem PB.putIv {w:World} {b:Nat} {r:RS} {nv iv:Value} (h:PB w b r nv iv) (l:List It) (v:Value):PB (w.setCell ⟨b,10,none⟩ v) b { r with x:={ r.x with ifs:=l } } nv v:=heap_setCell_same w b 10 _ _ _ h
theorem PB.putFinal {w:World} {b:Nat} {r:RS} {nv iv:Value} (h:PB w b r nv iv) (v:Bool):PB (w.setCell ⟨b,11,none⟩ (.bool v)) b (setFinal v r) nv iv:=heap_setCell_same w b 11 _ _ _ h
theorem PB.putI {w:World} {b:Nat} {r:RS} {nv iv:Value} (h:PB w b r nv iv) (v:Int):PB (w.setCell ⟨b,12,none⟩ (.int .i64 v)) b { r with i:=v } nv iv:=heap_setCell_same w b 12 _ _ _ h
theorem PB.putAt {w:World} {b:Nat} {r:RS} {nv iv:Value} (h:PB w b r nv iv) (l c:Int):PB ((w.setCell ⟨b,2,none⟩ (.int .i64 l)).setCell ⟨b,3,none⟩ (.int .i64 c)) b { r with x:={ r.x with line:=l,col:=c } } nv iv:=heap_setCell_same _ b 3 _ _ _ (heap_setCell_same w b 2 _ _ _ h)
theorem PB.putF {w:World} {b:Nat} {r:RS} {nv iv:Value} (h:PB w b r nv iv) (e l c:Int):PB (((w.setCell ⟨b,13,none⟩ (.int .i64 e)).setCell ⟨b,14,none⟩ (.int .i64 l)).setCell ⟨b,15,none⟩ (.int .i64 c)) b (setBad e l c r) nv iv:=heap_setCell_same _ b 15 _ _ _ (heap_setCell_same _ b 14 _ _ _ (heap_setCell_same w b 13 _ _ _ h))
def stP (w:World) (b:Nat) (r:RS) (nv iv:Value):World:=((((((((((((((((w.setCell ⟨b,0,none⟩ (.int .i64 r.x.kind)).setCell ⟨b,1,none⟩ (.string r.x.name)).setCell ⟨b,2,none⟩ (.int .i64 r.x.line)).setCell ⟨b,3,none⟩ (.int .i64 r.x.col)).setCell ⟨b,4,none⟩ (.int .i64 r.x.init)).setCell ⟨b,5,none⟩ nv).setCell ⟨b,6,none⟩ (.string r.x.role)).setCell ⟨b,7,none⟩ (.string r.x.stage)).setCell ⟨b,8,none⟩ (.string r.x.event)).setCell ⟨b,9,none⟩ (.int .i64 r.x.times)).setCell ⟨b,10,none⟩ iv).setCell ⟨b,11,none⟩ (.bool r.x.final)).setCell ⟨b,12,none⟩ (.int .i64 r.i)).setCell ⟨b,13,none⟩ (.int .i64 r.er)).setCell ⟨b,14,none⟩ (.int .i64 r.line)).setCell ⟨b,15,none⟩ (.int .i64 r.col))
theorem stP_is (w:World) (b:Nat) (r:RS) (nv iv:Value): ((((((((((((((((w.setCell ⟨b,0,none⟩ (.int .i64 r.x.kind)).setCell ⟨b,1,none⟩ (.string r.x.name)).setCell ⟨b,2,none⟩ (.int .i64 r.x.line)).setCell ⟨b,3,none⟩ (.int .i64 r.x.col)).setCell ⟨b,4,none⟩ (.int .i64 r.x.init)).setCell ⟨b,5,none⟩ nv).setCell ⟨b,6,none⟩ (.string r.x.role)).setCell ⟨b,7,none⟩ (.string r.x.stage)).setCell ⟨b,8,none⟩ (.string r.x.event)).setCell ⟨b,9,none⟩ (.int .i64 r.x.times)).setCell ⟨b,10,none⟩ iv).setCell ⟨b,11,none⟩ (.bool r.x.final)).setCell ⟨b,12,none⟩ (.int .i64 r.i)).setCell ⟨b,13,none⟩ (.int .i64 r.er)).setCell ⟨b,14,none⟩ (.int .i64 r.line)).setCell ⟨b,15,none⟩ (.int .i64 r.col))=stP w b r nv iv:=rfl
theorem PB.stored {w:World} {b:Nat} {r:RS} {nv iv:Value} (h:PB w b r nv iv) (s:RS) (nv2 iv2:Value):PB (stP w b s nv2 iv2) b s nv2 iv2:=by
 have h0:w.heap[b]?=_:=h
 have h1: (w.setCell ⟨b,0,none⟩ (.int .i64 s.x.kind)).heap[b]?=some (.cells #[.int .i64 s.x.kind,.string r.x.name,.int .i64 r.x.line,.int .i64 r.x.col,.int .i64 r.x.init,nv,.string r.x.role,.string r.x.stage,.string r.x.event,.int .i64 r.x.times,iv,.bool r.x.final,.int .i64 r.i,.int .i64 r.er,.int .i64 r.line,.int .i64 r.col] 62 (0,0)):=heap_setCell_same _ b 0 _ _ _ h0
 clear h0
 obtain⟨W1,hW1⟩:∃ W,(w.setCell ⟨b,0,none⟩ (.int .i64 s.x.kind))=W:=⟨_,rfl⟩
 rw[hW1] at h1
 have h2: (W1.setCell ⟨b,1,none⟩ (.string s.x.name)).heap[b]?=some (.cells #[.int .i64 s.x.kind,.string s.x.name,.int .i64 r.x.line,.int .i64 r.x.col,.int .i64 r.x.init,nv,.string r.x.role,.string r.x.stage,.string r.x.event,.int .i64 r.x.times,iv,.bool r.x.final,.int .i64 r.i,.int .i64 r.er,.int .i64 r.line,.int .i64 r.col] 62 (0,0)):=heap_setCell_same _ b 1 _ _ _ h1
 clear h1
 obtain⟨W2,hW2⟩:∃ W,(W1.setCell ⟨b,1,none⟩ (.string s.x.name))=W:=⟨_,rfl⟩
 rw[hW2] at h2
 have h3: (W2.setCell ⟨b,2,none⟩ (.int .i64 s.x.line)).heap[b]?=some (.cells #[.int .i64 s.x.kind,.string s.x.name,.int .i64 s.x.line,.int .i64 r.x.col,.int .i64 r.x.init,nv,.string r.x.role,.string r.x.stage,.string r.x.event,.int .i64 r.x.times,iv,.bool r.x.final,.int .i64 r.i,.int .i64 r.er,.int .i64 r.line,.int .i64 r.col] 62 (0,0)):=heap_setCell_same _ b 2 _ _ _ h2
 clear h2
 obtain⟨W3,hW3⟩:∃ W,(W2.setCell ⟨b,2,none⟩ (.int .i64 s.x.line))=W:=⟨_,rfl⟩
 rw[hW3] at h3
 have h4: (W3.setCell ⟨b,3,none⟩ (.int .i64 s.x.col)).heap[b]?=some (.cells #[.int .i64 s.x.kind,.string s.x.name,.int .i64 s.x.line,.int .i64 s.x.col,.int .i64 r.x.init,nv,.string r.x.role,.string r.x.stage,.string r.x.event,.int .i64 r.x.times,iv,.bool r.x.final,.int .i64 r.i,.int .i64 r.er,.int .i64 r.line,.int .i64 r.col] 62 (0,0)):=heap_setCell_same _ b 3 _ _ _ h3
 clear h3
 obtain⟨W4,hW4⟩:∃ W,(W3.setCell ⟨b,3,none⟩ (.int .i64 s.x.col))=W:=⟨_,rfl⟩
 rw[hW4] at h4
 have h5: (W4.setCell ⟨b,4,none⟩ (.int .i64 s.x.init)).heap[b]?=some (.cells #[.int .i64 s.x.kind,.string s.x.name,.int .i64 s.x.line,.int .i64 s.x.col,.int .i64 s.x.init,nv,.string r.x.role,.string r.x.stage,.string r.x.event,.int .i64 r.x.times,iv,.bool r.x.final,.int .i64 r.i,.int .i64 r.er,.int .i64 r.line,.int .i64 r.col] 62 (0,0)):=heap_setCell_same _ b 4 _ _ _ h4
 clear h4
 obtain⟨W5,hW5⟩:∃ W,(W4.setCell ⟨b,4,none⟩ (.int .i64 s.x.init))=W:=⟨_,rfl⟩
 rw[hW5] at h5
 have h6: (W5.setCell ⟨b,5,none⟩ nv2).heap[b]?=some (.cells #[.int .i64 s.x.kind,.string s.x.name,.int .i64 s.x.line,.int .i64 s.x.col,.int .i64 s.x.init,nv2,.string r.x.role,.string r.x.stage,.string r.x.event,.int .i64 r.x.times,iv,.bool r.x.final,.int .i64 r.i,.int .i64 r.er,.int .i64 r.line,.int .i64 r.col] 62 (0,0)):=heap_setCell_same _ b 5 _ _ _ h5
 clear h5
 obtain⟨W6,hW6⟩:∃ W,(W5.setCell ⟨b,5,none⟩ nv2)=W:=⟨_,rfl⟩
 rw[hW6] at h6
 have h7: (W6.setCell ⟨b,6,none⟩ (.string s.x.role)).heap[b]?=some (.cells #[.int .i64 s.x.kind,.string s.x.name,.int .i64 s.x.line,.int .i64 s.x.col,.int .i64 s.x.init,nv2,.string s.x.role,.string r.x.stage,.string r.x.event,.int .i64 r.x.times,iv,.bool r.x.final,.int .i64 r.i,.int .i64 r.er,.int .i64 r.line,.int .i64 r.col] 62 (0,0)):=heap_setCell_same _ b 6 _ _ _ h6
 clear h6
 obtain⟨W7,hW7⟩:∃ W,(W6.setCell ⟨b,6,none⟩ (.string s.x.role))=W:=⟨_,rfl⟩
 rw[hW7] at h7
 have h8: (W7.setCell ⟨b,7,none⟩ (.string s.x.stage)).heap[b]?=some (.cells #[.int .i64 s.x.kind,.string s.x.name,.int .i64 s.x.line,.int .i64 s.x.col,.int .i64 s.x.init,nv2,.string s.x.role,.string s.x.stage,.string r.x.event,.int .i64 r.x.times,iv,.bool r.x.final,.int .i64 r.i,.int .i64 r.er,.int .i64 r.line,.int .i64 r.col] 62 (0,0)):=heap_setCell_same _ b 7 _ _ _ h7
 clear h7
 obtain⟨W8,hW8⟩:∃ W,(W7.setCell ⟨b,7,none⟩ (.string s.x.stage))=W:=⟨_,rfl⟩
 rw[hW8] at h8
 have h9: (W8.setCell ⟨b,8,none⟩ (.string s.x.event)).heap[b]?=some (.cells #[.int .i64 s.x.kind,.string s.x.name,.int .i64 s.x.line,.int .i64 s.x.col,.int .i64 s.x.init,nv2,.string s.x.role,.string s.x.stage,.string s.x.event,.int .i64 r.x.times,iv,.bool r.x.final,.int .i64 r.i,.int .i64 r.er,.int .i64 r.line,.int .i64 r.col] 62 (0,0)):=heap_setCell_same _ b 8 _ _ _ h8
 clear h8
 obtain⟨W9,hW9⟩:∃ W,(W8.setCell ⟨b,8,none⟩ (.string s.x.event))=W:=⟨_,rfl⟩
 rw[hW9] at h9
 have h10: (W9.setCell ⟨b,9,none⟩ (.int .i64 s.x.times)).heap[b]?=some (.cells #[.int .i64 s.x.kind,.string s.x.name,.int .i64 s.x.line,.int .i64 s.x.col,.int .i64 s.x.init,nv2,.string s.x.role,.string s.x.stage,.string s.x.event,.int .i64 s.x.times,iv,.bool r.x.final,.int .i64 r.i,.int .i64 r.er,.int .i64 r.line,.int .i64 r.col] 62 (0,0)):=heap_setCell_same _ b 9 _ _ _ h9
 clear h9
 obtain⟨W10,hW10⟩:∃ W,(W9.setCell ⟨b,9,none⟩ (.int .i64 s.x.times))=W:=⟨_,rfl⟩
 rw[hW10] at h10
 have h11: (W10.setCell ⟨b,10,none⟩ iv2).heap[b]?=some (.cells #[.int .i64 s.x.kind,.string s.x.name,.int .i64 s.x.line,.int .i64 s.x.col,.int .i64 s.x.init,nv2,.string s.x.role,.string s.x.stage,.string s.x.event,.int .i64 s.x.times,iv2,.bool r.x.final,.int .i64 r.i,.int .i64 r.er,.int .i64 r.line,.int .i64 r.col] 62 (0,0)):=heap_setCell_same _ b 10 _ _ _ h10
 clear h10
 obtain⟨W11,hW11⟩:∃ W,(W10.setCell ⟨b,10,none⟩ iv2)=W:=⟨_,rfl⟩
 rw[hW11] at h11
 have h12: (W11.setCell ⟨b,11,none⟩ (.bool s.x.final)).heap[b]?=some (.cells #[.int .i64 s.x.kind,.string s.x.name,.int .i64 s.x.line,.int .i64 s.x.col,.int .i64 s.x.init,nv2,.string s.x.role,.string s.x.stage,.string s.x.event,.int .i64 s.x.times,iv2,.bool s.x.final,.int .i64 r.i,.int .i64 r.er,.int .i64 r.line,.int .i64 r.col] 62 (0,0)):=heap_setCell_same _ b 11 _ _ _ h11
 clear h11
 obtain⟨W12,hW12⟩:∃ W,(W11.setCell ⟨b,11,none⟩ (.bool s.x.final))=W:=⟨_,rfl⟩
 rw[hW12] at h12
 have h13: (W12.setCell ⟨b,12,none⟩ (.int .i64 s.i)).heap[b]?=some (.cells #[.int .i64 s.x.kind,.string s.x.name,.int .i64 s.x.line,.int .i64 s.x.col,.int .i64 s.x.init,nv2,.string s.x.role,.string s.x.stage,.string s.x.event,.int .i64 s.x.times,iv2,.bool s.x.final,.int .i64 s.i,.int .i64 r.er,.int .i64 r.line,.int .i64 r.col] 62 (0,0)):=heap_setCell_same _ b 12 _ _ _ h12
 clear h12
 obtain⟨W13,hW13⟩:∃ W,(W12.setCell ⟨b,12,none⟩ (.int .i64 s.i))=W:=⟨_,rfl⟩
 rw[hW13] at h13
 have h14: (W13.setCell ⟨b,13,none⟩ (.int .i64 s.er)).heap[b]?=some (.cells #[.int .i64 s.x.kind,.string s.x.name,.int .i64 s.x.line,.int .i64 s.x.col,.int .i64 s.x.init,nv2,.string s.x.role,.string s.x.stage,.string s.x.event,.int .i64 s.x.times,iv2,.bool s.x.final,.int .i64 s.i,.int .i64 s.er,.int .i64 r.line,.int .i64 r.col] 62 (0,0)):=heap_setCell_same _ b 13 _ _ _ h13
 clear h13
 obtain⟨W14,hW14⟩:∃ W,(W13.setCell ⟨b,13,none⟩ (.int .i64 s.er))=W:=⟨_,rfl⟩
 rw[hW14] at h14
 have h15: (W14.setCell ⟨b,14,none⟩ (.int .i64 s.line)).heap[b]?=some (.cells #[.int .i64 s.x.kind,.string s.x.name,.int .i64 s.x.line,.int .i64 s.x.col,.int .i64 s.x.init,nv2,.string s.x.role,.string s.x.stage,.string s.x.event,.int .i64 s.x.times,iv2,.bool s.x.final,.int .i64 s.i,.int .i64 s.er,.int .i64 s.line,.int .i64 r.col] 62 (0,0)):=heap_setCell_same _ b 14 _ _ _ h14
 clear h14
 obtain⟨W15,hW15⟩:∃ W,(W14.setCell ⟨b,14,none⟩ (.int .i64 s.line))=W:=⟨_,rfl⟩
 rw[hW15] at h15
 have h16: (W15.setCell ⟨b,15,none⟩ (.int .i64 s.col)).heap[b]?=some (.cells #[.int .i64 s.x.kind,.string s.x.name,.int .i64 s.x.line,.int .i64 s.x.col,.int .i64 s.x.init,nv2,.string s.x.role,.string s.x.stage,.string s.x.event,.int .i64 s.x.times,iv2,.bool s.x.final,.int .i64 s.i,.int .i64 s.er,.int .i64 s.line,.int .i64 s.col] 62 (0,0)):=heap_setCell_same _ b 15 _ _ _ h15
 clear h15
 unfold PB stP
 rw[hW1,hW2,hW3,hW4,hW5,hW6,hW7,hW8,hW9,hW10,hW11,hW12,hW13,hW14,hW15]
 exact h16
theorem below_stP {w0 w:World} {B k:Nat} (h:Below B w0 w) (hk:B≤k) (s:RS) (nv iv:Value):Below B w0 (stP w k s nv iv):=by
 unfold stP
 exact(((((((((((((((h.setCell hk _).setCell hk _).setCell hk _).setCell hk _).setCell hk _).setCell hk _).setCell hk _).setCell hk _).setCell hk _).setCell hk _).setCell hk _).setCell hk _).setCell hk _).setCell hk _).setCell hk _).setCell hk _
structure PEnt (w W:World) (r:RS) (nv iv:Value):Prop where
 p:PB W w.heap.size r nv iv
 q:PB W (w.heap.size+1) zeroR (.slice none 0 0) (.slice none 0 0)
 lo:Below w.heap.size w W
theorem pent (w:World) (r:RS) (nv iv:Value):PEnt w ((w.alloc (.cells #[.int .i64 r.x.kind,.string r.x.name,.int .i64 r.x.line,.int .i64 r.x.col,.int .i64 r.x.init,nv,.string r.x.role,.string r.x.stage,.string r.x.event,.int .i64 r.x.times,iv,.bool r.x.final,.int .i64 r.i,.int .i64 r.er,.int .i64 r.line,.int .i64 r.col] 62)).alloc oB4) r nv iv where
 p:=PB.alloc (heap_alloc_new w _) _
 q:=heap_at_size _ _ _ (by simp)
 lo:=((Below.refl _ _).alloc (Nat.le_refl _) _).alloc (by simp) _
theorem rdtok_any {w:World} {B:Nat} {lv:Value} {T:List Tk} (h:TkIn w B lv T) (i:Int) :
 Calls Tryz.prog 22 #[lv,.int .i64 i] w fun e w'=>e=.returned (tokV (tkAt T i))∧Below w.heap.size w w':=by
 have h':=h
 obtain⟨ad,cap,hv,hl,_⟩:=h'
 have hc:i < 0∨(0≤i∧(T.length:Int)≤i)∨∃ k:Nat,i=k∧k < T.length:=by
  by_cases h0:i < 0
  · exact .inl h0
  · by_cases h1: (T.length:Int)≤i
    · exact .inr (.inl ⟨by omega,h1⟩)
    · exact .inr (.inr ⟨i.toNat,by omega,by omega⟩)
 rcases hc with h0| ⟨h0,h1⟩ | ⟨k,rfl,hk⟩
 · have HN:Hid (tkAt T i=noTk):=by unfold Hid tkAt;rw[if_pos h0]
   subst hv
   clear h
   go_enter Tryz.func22,Tryz.ntmps22
   go_wp2
   exact bodyPost_ret (v:=.agg #[.int .i64 5,.string ⟨#[]⟩,.int .i64 0,.int .i64 0,.int .i64 0]) (by simp[results,Tryz.results22,go_sem]) rfl ⟨by rw[HN.out];rfl,(Below.refl _ _).alloc (Nat.le_refl _) _⟩
 · have HN:Hid (tkAt T i=noTk):=by
    unfold Hid
    obtain⟨k,rfl⟩:=Int.eq_ofNat_of_zero_le h0
    exact tkAt_far (by omega)
   subst hv
   clear h
   go_enter Tryz.func22,Tryz.ntmps22
   go_wp2
   exact bodyPost_ret (v:=.agg #[.int .i64 5,.string ⟨#[]⟩,.int .i64 0,.int .i64 0,.int .i64 0]) (by simp[results,Tryz.results22,go_sem]) rfl ⟨by rw[HN.out];rfl,(Below.refl _ _).alloc (Nat.le_refl _) _⟩
 · obtain⟨x,hx⟩:∃ x,T[k]?=some x:=⟨_,List.getElem?_eq_getElem hk⟩
   have HN:=Lh (tkAt_some hx)
   obtain⟨g,off,cap2,hv2,hgB,hgw,x0,x1,x2,x3,x4⟩:=h.at hx
   rw[hv2]
   have hk2: (k:Int) < (T.length:Int):=by omega
   clear h hv hv2 hx
   go_enter Tryz.func22,Tryz.ntmps22
   go_wp2
   exact bodyPost_ret (v:=tokV x) (by simp[results,Tryz.results22,go_sem,tokV]) rfl ⟨by rw[HN.out],(Below.refl _ _).alloc (Nat.le_refl _) _⟩
theorem tk_fields (x:Tk): (∀ w:World,(Instr.field 48 (.agg #[.int .i64 x.kind,.string x.text,.int .i64 x.num,.int .i64 x.line,.int .i64 x.col]) 0).run Tryz.prog w=.ok (.int .i64 x.kind) w)∧(∀ w:World,(Instr.field 48 (.agg #[.int .i64 x.kind,.string x.text,.int .i64 x.num,.int .i64 x.line,.int .i64 x.col]) 1).run Tryz.prog w=.ok (.string x.text) w):=⟨fun _=>by kernel_rfl,fun _=>by kernel_rfl⟩
theorem rdis_any {w:World} {B:Nat} {lv:Value} {T:List Tk} (h:TkIn w B lv T) (hB:B≤w.heap.size) (i kind:Int) (s:ByteArray) :
 Calls Tryz.prog 48 #[lv,.int .i64 i,.int .i64 kind,.string s] w fun e w'=>e=.returned (.bool (isTk T i kind s))∧Below w.heap.size w w':=by
 have HT:Hid (∀ W,Below w.heap.size w W→Calls Tryz.prog 22 #[lv,.int .i64 i] W fun e w'=>e=.returned (tokV (tkAt T i))∧Below W.heap.size W w'):=fun W hW=>rdtok_any (h.below (hW.mono hB)) i
 obtain⟨x,hx⟩:∃ x,tkAt T i=x:=⟨_,rfl⟩
 have HX:=Lh hx
 have HI:Hid (isTk T i kind s= (decide (x.kind=kind) && decide (x.text=s))):=by unfold Hid isTk;rw[hx]
 obtain⟨hf0,hf1⟩:=tk_fields x
 clear h hx hB
 by_cases hk:x.kind=kind
 · have hkb: (x.kind == kind)=true:=by rw[beq_iff_eq];exact hk
   obtain⟨q,hq⟩:∃ q,decide (x.text=s)=q:=⟨_,rfl⟩
   have htb: (x.text.toList == s.toList)=q:=by rw[bytes_beq];exact hq
   have HF:Hid (isTk T i kind s=q):=by unfold Hid;rw[HI.out,decide_eq_true hk,hq];rfl
   clear hk hq
   go_enter Tryz.func48,Tryz.ntmps48
   go_wp2_with fail
   refine(HT.out _ (Below.refl _ _)).mono ?_
   rintro e w1 ⟨rfl,hb1⟩
   rw[HX.out]
   unfold tokV
   have HB1:=Lh hb1
   clear hb1
   go_wp2_with fail
   refine(HT.out _ HB1.out).mono ?_
   rintro e w2 ⟨rfl,hb2⟩
   rw[HX.out]
   unfold tokV
   have HB2:=Lh (HB1.out.trans (hb2.mono HB1.out.size))
   clear hb2
   go_wp2
   go_ret
   exact⟨ret_bool HF.out.symm,HB2.out⟩
 · have hkb: (x.kind == kind)=false:=beq_eq_false_iff_ne.2 hk
   have HF:Hid (isTk T i kind s=false):=by unfold Hid;rw[HI.out,decide_eq_false hk,Bool.false_and]
   clear hk
   go_enter Tryz.func48,Tryz.ntmps48
   go_wp2_with fail
   refine(HT.out _ (Below.refl _ _)).mono ?_
   rintro e w1 ⟨rfl,hb1⟩
   rw[HX.out]
   unfold tokV
   have HB1:=Lh hb1
   clear hb1
   go_wp2
   go_ret
   exact⟨ret_bool HF.out.symm,HB1.out⟩
end Go.Proofs.YthlofmnmacpogaaGreatDoor
