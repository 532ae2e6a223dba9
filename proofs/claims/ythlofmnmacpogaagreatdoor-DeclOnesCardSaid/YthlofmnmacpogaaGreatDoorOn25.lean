/- A part of a proof: 'warder/warderlaw07.DeclOnes' returns true for every input and leaves its arguments as they were; no condition. The row lists package-level variables of Go's library with what they hold at the start; the card ties them to the program's text. -/
import Derived.Test.YthlofmnmacpogaaGreatDoorOn23
import Derived.Test.YthlofmnmacpogaaGreatDoorOn24
namespace Go.Proofs.YthlofmnmacpogaaGreatDoor
open Go.RowKit
def pvV (r:RS) (nv iv:Value):Value:=.agg #[.int .i64 r.x.kind,.string r.x.name,.int .i64 r.x.line,.int .i64 r.x.col,.int .i64 r.x.init,nv,.string r.x.role,.string r.x.stage,.string r.x.event,.int .i64 r.x.times,iv,.bool r.x.final,.int .i64 r.i,.int .i64 r.er,.int .i64 r.line,.int .i64 r.col]
theorem pv_is (r:RS) (nv iv:Value):pvV r nv iv=.agg #[.int .i64 r.x.kind,.string r.x.name,.int .i64 r.x.line,.int .i64 r.x.col,.int .i64 r.x.init,nv,.string r.x.role,.string r.x.stage,.string r.x.event,.int .i64 r.x.times,iv,.bool r.x.final,.int .i64 r.i,.int .i64 r.er,.int .i64 r.line,.int .i64 r.col]:=rfl
def SlV (v:Value):Prop:=∃ ad n cap,v=.slice ad n cap
def zeroR:RS:=⟨0,noSt,0,0,0⟩
def PB (w:World) (b:Nat) (r:RS) (nv iv:Value):Prop:=w.heap[b]?=some (.cells #[.int .i64 r.x.kind,.string r.x.name,.int .i64 r.x.line,.int .i64 r.x.col,.int .i64 r.x.init,nv,.string r.x.role,.string r.x.stage,.string r.x.event,.int .i64 r.x.times,iv,.bool r.x.final,.int .i64 r.i,.int .i64 r.er,.int .i64 r.line,.int .i64 r.col] 62 (0,0))
theorem PB.facts {w:World} {b:Nat} {r:RS} {nv iv:Value} (h:PB w b r nv iv):w.cell? ⟨b,0,none⟩ = some (.int .i64 r.x.kind)∧w.cell? ⟨b,1,none⟩ = some (.string r.x.name)∧w.cell? ⟨b,2,none⟩ = some (.int .i64 r.x.line)∧w.cell? ⟨b,3,none⟩ = some (.int .i64 r.x.col)∧w.cell? ⟨b,4,none⟩ = some (.int .i64 r.x.init)∧w.cell? ⟨b,5,none⟩ = some nv∧w.cell? ⟨b,6,none⟩ = some (.string r.x.role)∧w.cell? ⟨b,7,none⟩ = some (.string r.x.stage)∧w.cell? ⟨b,8,none⟩ = some (.string r.x.event)∧w.cell? ⟨b,9,none⟩ = some (.int .i64 r.x.times)∧w.cell? ⟨b,10,none⟩ = some iv∧w.cell? ⟨b,11,none⟩ = some (.bool r.x.final)∧w.cell? ⟨b,12,none⟩ = some (.int .i64 r.i)∧w.cell? ⟨b,13,none⟩ = some (.int .i64 r.er)∧w.cell? ⟨b,14,none⟩ = some (.int .i64 r.line)∧w.cell? ⟨b,15,none⟩ = some (.int .i64 r.col):=by
 unfold PB at h
 refine⟨?_,?_,?_,?_,?_,?_,?_,?_,?_,?_,?_,?_,?_,?_,?_,?_⟩ <;> simp[World.cell?,h]
theorem PB.free {w:World} {b:Nat} {r:RS} {nv iv:Value} (h:PB w b r nv iv):w.frozen? ⟨b,0,none⟩ = false∧w.frozen? ⟨b,1,none⟩ = false∧w.frozen? ⟨b,2,none⟩ = false∧w.frozen? ⟨b,3,none⟩ = false∧w.frozen? ⟨b,4,none⟩ = false∧w.frozen? ⟨b,5,none⟩ = false∧w.frozen? ⟨b,6,none⟩ = false∧w.frozen? ⟨b,7,none⟩ = false∧w.frozen? ⟨b,8,none⟩ = false∧w.frozen? ⟨b,9,none⟩ = false∧w.frozen? ⟨b,10,none⟩ = false∧w.frozen? ⟨b,11,none⟩ = false∧w.frozen? ⟨b,12,none⟩ = false∧w.frozen? ⟨b,13,none⟩ = false∧w.frozen? ⟨b,14,none⟩ = false∧w.frozen? ⟨b,15,none⟩ = false:=by
 unfold PB at h
 refine⟨?_,?_,?_,?_,?_,?_,?_,?_,?_,?_,?_,?_,?_,?_,?_,?_⟩ <;> simp[World.frozen?,h]
theorem PB.lt {w:World} {b:Nat} {r:RS} {nv iv:Value} (h:PB w b r nv iv):b < w.heap.size:=(Array.getElem?_eq_some_iff.1 h).1
theorem PB.below {w:World} {b:Nat} {r:RS} {nv iv:Value} {w':World} (h:PB w b r nv iv) (hb:Below w.heap.size w w'):PB w' b r nv iv:=(hb.block b h.lt).trans h
theorem PB.alloc {w:World} {b:Nat} {r:RS} {nv iv:Value} (h:PB w b r nv iv) (o:Obj):PB (w.alloc o) b r nv iv:=(Below.heap_alloc _ _ _ h.lt).trans h
theorem PB.drew {w:World} {b:Nat} {r:RS} {nv iv:Value} (h:PB w b r nv iv):PB w.drew b r nv iv:=h
theorem PB.over {w:World} {b:Nat} {r:RS} {nv iv:Value} (h:PB w b r nv iv) {k j:Nat} (hne:b≠k) (u:Value):PB (w.setCell ⟨k,j,none⟩ u) b r nv iv:=(Below.heap_setCell _ _ _ _ (by show b≠k;exact hne)).trans h
theorem PB.grown {w:World} {b:Nat} {r:RS} {nv iv:Value} {w':World} {row:Option Nat} (h:PB w b r nv iv) (hg:w.grownBy w' row) (hne:row≠some b):PB w' b r nv iv:=(hg.block b h.lt (Ne.symm hne)).trans h
theorem PB.putK {w:World} {b:Nat} {r:RS} {nv iv:Value} (h:PB w b r nv iv) (v:Int):PB (w.setCell ⟨b,0,none⟩ (.int .i64 v)) b { r with x:={ r.x with kind:=v } } nv iv:=heap_setCell_same w b 0 _ _ _ h
theorem PB.putName {w:World} {b:Nat} {r:RS} {nv iv:Value} (h:PB w b r nv iv) (v:ByteArray):PB (w.setCell ⟨b,1,none⟩ (.string v)) b (setName v r) nv iv:=heap_setCell_same w b 1 _ _ _ h
theorem PB.putInit {w:World} {b:Nat} {r:RS} {nv iv:Value} (h:PB w b r nv iv) (v:Int):PB (w.setCell ⟨b,4,none⟩ (.int .i64 v)) b (setInit v r) nv iv:=heap_setCell_same w b 4 _ _ _ h
theorem PB.putNv {w:World} {b:Nat} {r:RS} {nv iv:Value} (h:PB w b r nv iv) (l:List ByteArray) (v:Value):PB (w.setCell ⟨b,5,none⟩ v) b (setNames l r) v iv:=heap_setCell_same w b 5 _ _ _ h
theorem PB.putRole {w:World} {b:Nat} {r:RS} {nv iv:Value} (h:PB w b r nv iv) (v:ByteArray):PB (w.setCell ⟨b,6,none⟩ (.string v)) b (setRole v r) nv iv:=heap_setCell_same w b 6 _ _ _ h
theorem PB.putStage {w:World} {b:Nat} {r:RS} {nv iv:Value} (h:PB w b r nv iv) (v:ByteArray):PB (w.setCell ⟨b,7,none⟩ (.string v)) b (setStage v r) nv iv:=heap_setCell_same w b 7 _ _ _ h
theorem PB.putEvent {w:World} {b:Nat} {r:RS} {nv iv:Value} (h:PB w b r nv iv) (v:ByteArray):PB (w.setCell ⟨b,8,none⟩ (.string v)) b (setEvent v r) nv iv:=heap_setCell_same w b 8 _ _ _ h
theorem PB.putTimes {w:World} {b:Nat} {r:RS} {nv iv:Value} (h:PB w b r nv iv) (v:Int):PB (w.setCell ⟨b,9,none⟩ (.int .i64 v)) b (setTimes v r) nv iv:=heap_setCell_same w b 9 _ _ _ h
theorem PB.putIv {w:World} {b:Nat} {r:RS} {nv iv:Value} (h:PB w b r nv iv) (l:List It) (v:Value):PB (w.setCell ⟨b,10,none⟩ v) b { r with x:={ r.x with ifs:=l } } nv v:=heap_setCell_same w b 10 _ _ _ h
theorem PB.putFinal {w:World} {b:Nat} {r:RS} {nv iv:Value} (h:PB w b r nv iv) (v:Bool):PB (w.setCell ⟨b,11,none⟩ (.bool v)) b (setFinal v r) nv iv:=heap_setCell_same w b 11 _ _ _ h
theorem PB.putI {w:World} {b:Nat} {r:RS} {nv iv:Value} (h:PB w b r nv iv) (v:Int):PB (w.setCell ⟨b,12,none⟩ (.int .i64 v)) b { r with i:=v } nv iv:=heap_setCell_same w b 12 _ _ _ h
theorem PB.putAt {w:World} {b:Nat} {r:RS} {nv iv:Value} (h:PB w b r nv iv) (l c:Int):PB ((w.setCell ⟨b,2,none⟩ (.int .i64 l)).setCell ⟨b,3,none⟩ (.int .i64 c)) b { r with x:={ r.x with line:=l,col:=c } } nv iv:=heap_setCell_same _ b 3 _ _ _ (heap_setCell_same w b 2 _ _ _ h)
theorem PB.putF {w:World} {b:Nat} {r:RS} {nv iv:Value} (h:PB w b r nv iv) (e l c:Int):PB (((w.setCell ⟨b,13,none⟩ (.int .i64 e)).setCell ⟨b,14,none⟩ (.int .i64 l)).setCell ⟨b,15,none⟩ (.int .i64 c)) b (setBad e l c r) nv iv:=heap_setCell_same _ b 15 _ _ _ (heap_setCell_same _ b 14 _ _ _ (heap_setCell_same w b 13 _ _ _ h))
def stP (w:World) (b:Nat) (r:RS) (nv iv:Value):World:=((((((((((((((((w.setCell ⟨b,0,none⟩ (.int .i64 r.x.kind)).setCell ⟨b,1,none⟩ (.string r.x.name)).setCell ⟨b,2,none⟩ (.int .i64 r.x.line)).setCell ⟨b,3,none⟩ (.int .i64 r.x.col)).setCell ⟨b,4,none⟩ (.int .i64 r.x.init)).setCell ⟨b,5,none⟩ nv).setCell ⟨b,6,none⟩ (.string r.x.role)).setCell ⟨b,7,none⟩ (.string r.x.stage)).setCell ⟨b,8,none⟩ (.string r.x.event)).setCell ⟨b,9,none⟩ (.int .i64 r.x.times)).setCell ⟨b,10,none⟩ iv).setCell ⟨b,11,none⟩ (.bool r.x.final)).setCell ⟨b,12,none⟩ (.int .i64 r.i)).setCell ⟨b,13,none⟩ (.int .i64 r.er)).setCell ⟨b,14,none⟩ (.int .i64 r.line)).setCell ⟨b,15,none⟩ (.int .i64 r.col))
theorem stP_is (w:World) (b:Nat) (r:RS) (nv iv:Value): ((((((((((((((((w.setCell ⟨b,0,none⟩ (.int .i64 r.x.kind)).setCell ⟨b,1,none⟩ (.string r.x.name)).setCell ⟨b,2,none⟩ (.int .i64 r.x.line)).setCell ⟨b,3,none⟩ (.int .i64 r.x.col)).setCell ⟨b,4,none⟩ (.int .i64 r.x.init)).setCell ⟨b,5,none⟩ nv).setCell ⟨b,6,none⟩ (.string r.x.role)).setCell ⟨b,7,none⟩ (.string r.x.stage)).setCell ⟨b,8,none⟩ (.string r.x.event)).setCell ⟨b,9,none⟩ (.int .i64 r.x.times)).setCell ⟨b,10,none⟩ iv).setCell ⟨b,11,none⟩ (.bool r.x.final)).setCell ⟨b,12,none⟩ (.int .i64 r.i)).setCell ⟨b,13,none⟩ (.int .i64 r.er)).setCell ⟨b,14,none⟩ (.int .i64 r.line)).setCell ⟨b,15,none⟩ (.int .i64 r.col))=stP w b r nv iv:=rfl
set_option maxHeartbeats 2000000 in
theorem PB.stored {w:World} {b:Nat} {r:RS} {nv iv:Value} (h:PB w b r nv iv) (s:RS) (nv2 iv2:Value):PB (stP w b s nv2 iv2) b s nv2 iv2:=by
 have h0:w.heap[b]?=_:=h
 have h1: (w.setCell ⟨b,0,none⟩ (.int .i64 s.x.kind)).heap[b]?=some (.cells #[.int .i64 s.x.kind,.string r.x.name,.int .i64 r.x.line,.int .i64 r.x.col,.int .i64 r.x.init,nv,.string r.x.role,.string r.x.stage,.string r.x.event,.int .i64 r.x.times,iv,.bool r.x.final,.int .i64 r.i,.int .i64 r.er,.int .i64 r.line,.int .i64 r.col] 62 (0,0)):=heap_setCell_same _ b 0 _ _ _ h0
 clear h0
 obtain⟨W1,hW1⟩:∃ W,(w.setCell ⟨b,0,none⟩ (.int .i64 s.x.kind))=W:=⟨_,rfl⟩
 rw[hW1] at h1
 have h2: (W1.setCell ⟨b,1,none⟩ (.string s.x.name)).heap[b]?=some (.cells #[.int .i64 s.x.kind,.string s.x.name,.int .i64 r.x.line,.int .i64 r.x.col,.int .i64 r.x.init,nv,.string r.x.role,.string r.x.stage,.string r.x.event,.int .i64 r.x.times,iv,.bool r.x.final,.int .i64 r.i,.int .i64 r.er,.int .i64 r.line,.int .i64 r.col] 62 (0,0)):=heap_setCell_same _ b 1 _ _ _ h1
 clear h1
 obtain⟨W2,hW2⟩:∃ W,(W1.setCell ⟨b,1,none⟩ (.string s.x.name))=W:=⟨_,rfl⟩
 rw[hW2] at h2
 have h3: (W2.setCell ⟨b,2,none⟩ (.int .i64 s.x.line)).heap[b]?=some (.cells #[.int .i64 s.x.kind,.string s.x.name,.int .i64 s.x.line,.int .i64 r.x.col,.int .i64 r.x.init,nv,.string r.x.role,.string r.x.stage,.string r.x.event,.int .i64 r.x.times,iv,.bool r.x.final,.int .i64 r.i,.int .i64 r.er,.int .i64 r.line,.int .i64 r.col] 62 (0,0)):=heap_setCell_same _ b 2 _ _ _ h2
 clear h2
 obtain⟨W3,hW3⟩:∃ W,(W2.setCell ⟨b,2,none⟩ (.int .i64 s.x.line))=W:=⟨_,rfl⟩
 rw[hW3] at h3
 have h4: (W3.setCell ⟨b,3,none⟩ (.int .i64 s.x.col)).heap[b]?=some (.cells #[.int .i64 s.x.kind,.string s.x.name,.int .i64 s.x.line,.int .i64 s.x.col,.int .i64 r.x.init,nv,.string r.x.role,.string r.x.stage,.string r.x.event,.int .i64 r.x.times,iv,.bool r.x.final,.int .i64 r.i,.int .i64 r.er,.int .i64 r.line,.int .i64 r.col] 62 (0,0)):=heap_setCell_same _ b 3 _ _ _ h3
 clear h3
 obtain⟨W4,hW4⟩:∃ W,(W3.setCell ⟨b,3,none⟩ (.int .i64 s.x.col))=W:=⟨_,rfl⟩
 rw[hW4] at h4
 have h5: (W4.setCell ⟨b,4,none⟩ (.int .i64 s.x.init)).heap[b]?=some (.cells #[.int .i64 s.x.kind,.string s.x.name,.int .i64 s.x.line,.int .i64 s.x.col,.int .i64 s.x.init,nv,.string r.x.role,.string r.x.stage,.string r.x.event,.int .i64 r.x.times,iv,.bool r.x.final,.int .i64 r.i,.int .i64 r.er,.int .i64 r.line,.int .i64 r.col] 62 (0,0)):=heap_setCell_same _ b 4 _ _ _ h4
 clear h4
 obtain⟨W5,hW5⟩:∃ W,(W4.setCell ⟨b,4,none⟩ (.int .i64 s.x.init))=W:=⟨_,rfl⟩
 rw[hW5] at h5
 have h6: (W5.setCell ⟨b,5,none⟩ nv2).heap[b]?=some (.cells #[.int .i64 s.x.kind,.string s.x.name,.int .i64 s.x.line,.int .i64 s.x.col,.int .i64 s.x.init,nv2,.string r.x.role,.string r.x.stage,.string r.x.event,.int .i64 r.x.times,iv,.bool r.x.final,.int .i64 r.i,.int .i64 r.er,.int .i64 r.line,.int .i64 r.col] 62 (0,0)):=heap_setCell_same _ b 5 _ _ _ h5
 clear h5
 obtain⟨W6,hW6⟩:∃ W,(W5.setCell ⟨b,5,none⟩ nv2)=W:=⟨_,rfl⟩
 rw[hW6] at h6
 have h7: (W6.setCell ⟨b,6,none⟩ (.string s.x.role)).heap[b]?=some (.cells #[.int .i64 s.x.kind,.string s.x.name,.int .i64 s.x.line,.int .i64 s.x.col,.int .i64 s.x.init,nv2,.string s.x.role,.string r.x.stage,.string r.x.event,.int .i64 r.x.times,iv,.bool r.x.final,.int .i64 r.i,.int .i64 r.er,.int .i64 r.line,.int .i64 r.col] 62 (0,0)):=heap_setCell_same _ b 6 _ _ _ h6
 clear h6
 obtain⟨W7,hW7⟩:∃ W,(W6.setCell ⟨b,6,none⟩ (.string s.x.role))=W:=⟨_,rfl⟩
 rw[hW7] at h7
 have h8: (W7.setCell ⟨b,7,none⟩ (.string s.x.stage)).heap[b]?=some (.cells #[.int .i64 s.x.kind,.string s.x.name,.int .i64 s.x.line,.int .i64 s.x.col,.int .i64 s.x.init,nv2,.string s.x.role,.string s.x.stage,.string r.x.event,.int .i64 r.x.times,iv,.bool r.x.final,.int .i64 r.i,.int .i64 r.er,.int .i64 r.line,.int .i64 r.col] 62 (0,0)):=heap_setCell_same _ b 7 _ _ _ h7
 clear h7
 obtain⟨W8,hW8⟩:∃ W,(W7.setCell ⟨b,7,none⟩ (.string s.x.stage))=W:=⟨_,rfl⟩
 rw[hW8] at h8
 have h9: (W8.setCell ⟨b,8,none⟩ (.string s.x.event)).heap[b]?=some (.cells #[.int .i64 s.x.kind,.string s.x.name,.int .i64 s.x.line,.int .i64 s.x.col,.int .i64 s.x.init,nv2,.string s.x.role,.string s.x.stage,.string s.x.event,.int .i64 r.x.times,iv,.bool r.x.final,.int .i64 r.i,.int .i64 r.er,.int .i64 r.line,.int .i64 r.col] 62 (0,0)):=heap_setCell_same _ b 8 _ _ _ h8
 clear h8
 obtain⟨W9,hW9⟩:∃ W,(W8.setCell ⟨b,8,none⟩ (.string s.x.event))=W:=⟨_,rfl⟩
 rw[hW9] at h9
 have h10: (W9.setCell ⟨b,9,none⟩ (.int .i64 s.x.times)).heap[b]?=some (.cells #[.int .i64 s.x.kind,.string s.x.name,.int .i64 s.x.line,.int .i64 s.x.col,.int .i64 s.x.init,nv2,.string s.x.role,.string s.x.stage,.string s.x.event,.int .i64 s.x.times,iv,.bool r.x.final,.int .i64 r.i,.int .i64 r.er,.int .i64 r.line,.int .i64 r.col] 62 (0,0)):=heap_setCell_same _ b 9 _ _ _ h9
 clear h9
 obtain⟨W10,hW10⟩:∃ W,(W9.setCell ⟨b,9,none⟩ (.int .i64 s.x.times))=W:=⟨_,rfl⟩
 rw[hW10] at h10
 have h11: (W10.setCell ⟨b,10,none⟩ iv2).heap[b]?=some (.cells #[.int .i64 s.x.kind,.string s.x.name,.int .i64 s.x.line,.int .i64 s.x.col,.int .i64 s.x.init,nv2,.string s.x.role,.string s.x.stage,.string s.x.event,.int .i64 s.x.times,iv2,.bool r.x.final,.int .i64 r.i,.int .i64 r.er,.int .i64 r.line,.int .i64 r.col] 62 (0,0)):=heap_setCell_same _ b 10 _ _ _ h10
 clear h10
 obtain⟨W11,hW11⟩:∃ W,(W10.setCell ⟨b,10,none⟩ iv2)=W:=⟨_,rfl⟩
 rw[hW11] at h11
 have h12: (W11.setCell ⟨b,11,none⟩ (.bool s.x.final)).heap[b]?=some (.cells #[.int .i64 s.x.kind,.string s.x.name,.int .i64 s.x.line,.int .i64 s.x.col,.int .i64 s.x.init,nv2,.string s.x.role,.string s.x.stage,.string s.x.event,.int .i64 s.x.times,iv2,.bool s.x.final,.int .i64 r.i,.int .i64 r.er,.int .i64 r.line,.int .i64 r.col] 62 (0,0)):=heap_setCell_same _ b 11 _ _ _ h11
 clear h11
 obtain⟨W12,hW12⟩:∃ W,(W11.setCell ⟨b,11,none⟩ (.bool s.x.final))=W:=⟨_,rfl⟩
 rw[hW12] at h12
 have h13: (W12.setCell ⟨b,12,none⟩ (.int .i64 s.i)).heap[b]?=some (.cells #[.int .i64 s.x.kind,.string s.x.name,.int .i64 s.x.line,.int .i64 s.x.col,.int .i64 s.x.init,nv2,.string s.x.role,.string s.x.stage,.string s.x.event,.int .i64 s.x.times,iv2,.bool s.x.final,.int .i64 s.i,.int .i64 r.er,.int .i64 r.line,.int .i64 r.col] 62 (0,0)):=heap_setCell_same _ b 12 _ _ _ h12
 clear h12
 obtain⟨W13,hW13⟩:∃ W,(W12.setCell ⟨b,12,none⟩ (.int .i64 s.i))=W:=⟨_,rfl⟩
 rw[hW13] at h13
 have h14: (W13.setCell ⟨b,13,none⟩ (.int .i64 s.er)).heap[b]?=some (.cells #[.int .i64 s.x.kind,.string s.x.name,.int .i64 s.x.line,.int .i64 s.x.col,.int .i64 s.x.init,nv2,.string s.x.role,.string s.x.stage,.string s.x.event,.int .i64 s.x.times,iv2,.bool s.x.final,.int .i64 s.i,.int .i64 s.er,.int .i64 r.line,.int .i64 r.col] 62 (0,0)):=heap_setCell_same _ b 13 _ _ _ h13
 clear h13
 obtain⟨W14,hW14⟩:∃ W,(W13.setCell ⟨b,13,none⟩ (.int .i64 s.er))=W:=⟨_,rfl⟩
 rw[hW14] at h14
 have h15: (W14.setCell ⟨b,14,none⟩ (.int .i64 s.line)).heap[b]?=some (.cells #[.int .i64 s.x.kind,.string s.x.name,.int .i64 s.x.line,.int .i64 s.x.col,.int .i64 s.x.init,nv2,.string s.x.role,.string s.x.stage,.string s.x.event,.int .i64 s.x.times,iv2,.bool s.x.final,.int .i64 s.i,.int .i64 s.er,.int .i64 s.line,.int .i64 r.col] 62 (0,0)):=heap_setCell_same _ b 14 _ _ _ h14
 clear h14
 obtain⟨W15,hW15⟩:∃ W,(W14.setCell ⟨b,14,none⟩ (.int .i64 s.line))=W:=⟨_,rfl⟩
 rw[hW15] at h15
 have h16: (W15.setCell ⟨b,15,none⟩ (.int .i64 s.col)).heap[b]?=some (.cells #[.int .i64 s.x.kind,.string s.x.name,.int .i64 s.x.line,.int .i64 s.x.col,.int .i64 s.x.init,nv2,.string s.x.role,.string s.x.stage,.string s.x.event,.int .i64 s.x.times,iv2,.bool s.x.final,.int .i64 s.i,.int .i64 s.er,.int .i64 s.line,.int .i64 s.col] 62 (0,0)):=heap_setCell_same _ b 15 _ _ _ h15
 clear h15
 unfold PB stP
 rw[hW1,hW2,hW3,hW4,hW5,hW6,hW7,hW8,hW9,hW10,hW11,hW12,hW13,hW14,hW15]
 exact h16
theorem below_stP {w0 w:World} {B k:Nat} (h:Below B w0 w) (hk:B≤k) (s:RS) (nv iv:Value):Below B w0 (stP w k s nv iv):=by
 unfold stP
 exact(((((((((((((((h.setCell hk _).setCell hk _).setCell hk _).setCell hk _).setCell hk _).setCell hk _).setCell hk _).setCell hk _).setCell hk _).setCell hk _).setCell hk _).setCell hk _).setCell hk _).setCell hk _).setCell hk _).setCell hk _
structure PEnt (w W:World) (r:RS) (nv iv:Value):Prop where
 p:PB W w.heap.size r nv iv
 q:PB W (w.heap.size+1) zeroR (.slice none 0 0) (.slice none 0 0)
 lo:Below w.heap.size w W
theorem pent (w:World) (r:RS) (nv iv:Value):PEnt w ((w.alloc (.cells #[.int .i64 r.x.kind,.string r.x.name,.int .i64 r.x.line,.int .i64 r.x.col,.int .i64 r.x.init,nv,.string r.x.role,.string r.x.stage,.string r.x.event,.int .i64 r.x.times,iv,.bool r.x.final,.int .i64 r.i,.int .i64 r.er,.int .i64 r.line,.int .i64 r.col] 62)).alloc (.cells #[.int .i64 0,.string ⟨#[]⟩,.int .i64 0,.int .i64 0,.int .i64 0,.slice none 0 0,.string ⟨#[]⟩,.string ⟨#[]⟩,.string ⟨#[]⟩,.int .i64 0,.slice none 0 0,.bool false,.int .i64 0,.int .i64 0,.int .i64 0,.int .i64 0] 62)) r nv iv where
 p:=PB.alloc (heap_alloc_new w _) _
 q:=heap_at_size _ _ _ (by simp)
 lo:=((Below.refl _ _).alloc (Nat.le_refl _) _).alloc (by simp) _
set_option maxRecDepth 100000 in
set_option maxHeartbeats 1000000 in
theorem rdtok_any {w:World} {B:Nat} {lv:Value} {T:List Tk} (h:TkIn w B lv T) (i:Int) :
 Calls Tryz.prog 22 #[lv,.int .i64 i] w fun e w'=>e=.returned (tokV (tkAt T i))∧Below w.heap.size w w':=by
 have h':=h
 obtain⟨ad,cap,hv,hl,_⟩:=h'
 have hc:i < 0∨(0≤i∧(T.length:Int)≤i)∨∃ k:Nat,i=k∧k < T.length:=by
  by_cases h0:i < 0
  · exact .inl h0
  · by_cases h1: (T.length:Int)≤i
    · exact .inr (.inl ⟨by omega,h1⟩)
    · exact .inr (.inr ⟨i.toNat,by omega,by omega⟩)
 rcases hc with h0| ⟨h0,h1⟩ | ⟨k,rfl,hk⟩
 · have HN:Hid (tkAt T i=noTk):=by unfold Hid tkAt;rw[if_pos h0]
   subst hv
   clear h
   go_enter Tryz.func22,Tryz.ntmps22
   go_wp2
   exact bodyPost_ret (v:=.agg #[.int .i64 5,.string ⟨#[]⟩,.int .i64 0,.int .i64 0,.int .i64 0]) (by simp[results,Tryz.results22,go_sem]) rfl ⟨by rw[HN.out];rfl,(Below.refl _ _).alloc (Nat.le_refl _) _⟩
 · have HN:Hid (tkAt T i=noTk):=by
    unfold Hid
    obtain⟨k,rfl⟩:=Int.eq_ofNat_of_zero_le h0
    exact tkAt_far (by omega)
   subst hv
   clear h
   go_enter Tryz.func22,Tryz.ntmps22
   go_wp2
   exact bodyPost_ret (v:=.agg #[.int .i64 5,.string ⟨#[]⟩,.int .i64 0,.int .i64 0,.int .i64 0]) (by simp[results,Tryz.results22,go_sem]) rfl ⟨by rw[HN.out];rfl,(Below.refl _ _).alloc (Nat.le_refl _) _⟩
 · obtain⟨x,hx⟩:∃ x,T[k]?=some x:=⟨_,List.getElem?_eq_getElem hk⟩
   have HN:=Lib.hid (tkAt_some hx)
   obtain⟨g,off,cap2,hv2,hgB,hgw,x0,x1,x2,x3,x4⟩:=h.at hx
   rw[hv2]
   have hk2: (k:Int) < (T.length:Int):=by omega
   clear h hv hv2 hx
   go_enter Tryz.func22,Tryz.ntmps22
   go_wp2
   exact bodyPost_ret (v:=tokV x) (by simp[results,Tryz.results22,go_sem,tokV]) rfl ⟨by rw[HN.out],(Below.refl _ _).alloc (Nat.le_refl _) _⟩
theorem tk_fields (x:Tk): (∀ w:World,(Instr.field 48 (.agg #[.int .i64 x.kind,.string x.text,.int .i64 x.num,.int .i64 x.line,.int .i64 x.col]) 0).run Tryz.prog w=.ok (.int .i64 x.kind) w)∧(∀ w:World,(Instr.field 48 (.agg #[.int .i64 x.kind,.string x.text,.int .i64 x.num,.int .i64 x.line,.int .i64 x.col]) 1).run Tryz.prog w=.ok (.string x.text) w):=⟨fun _=>by kernel_rfl,fun _=>by kernel_rfl⟩
set_option maxRecDepth 100000 in
set_option maxHeartbeats 1000000 in
theorem rdis_any {w:World} {B:Nat} {lv:Value} {T:List Tk} (h:TkIn w B lv T) (hB:B≤w.heap.size) (i kind:Int) (s:ByteArray) :
 Calls Tryz.prog 48 #[lv,.int .i64 i,.int .i64 kind,.string s] w fun e w'=>e=.returned (.bool (isTk T i kind s))∧Below w.heap.size w w':=by
 have HT:Hid (∀ W,Below w.heap.size w W→Calls Tryz.prog 22 #[lv,.int .i64 i] W fun e w'=>e=.returned (tokV (tkAt T i))∧Below W.heap.size W w'):=fun W hW=>rdtok_any (h.below (hW.mono hB)) i
 obtain⟨x,hx⟩:∃ x,tkAt T i=x:=⟨_,rfl⟩
 have HX:=Lib.hid hx
 have HI:Hid (isTk T i kind s= (decide (x.kind=kind) && decide (x.text=s))):=by unfold Hid isTk;rw[hx]
 obtain⟨hf0,hf1⟩:=tk_fields x
 clear h hx hB
 by_cases hk:x.kind=kind
 · have hkb: (x.kind == kind)=true:=by rw[beq_iff_eq];exact hk
   obtain⟨q,hq⟩:∃ q,decide (x.text=s)=q:=⟨_,rfl⟩
   have htb: (x.text.toList == s.toList)=q:=by rw[bytes_beq];exact hq
   have HF:Hid (isTk T i kind s=q):=by unfold Hid;rw[HI.out,decide_eq_true hk,hq];rfl
   clear hk hq
   go_enter Tryz.func48,Tryz.ntmps48
   go_wp2_with fail
   refine(HT.out _ (Below.refl _ _)).mono ?_
   rintro e w1 ⟨rfl,hb1⟩
   rw[HX.out]
   unfold tokV
   have HB1:=Lib.hid hb1
   clear hb1
   go_wp2_with fail
   refine(HT.out _ HB1.out).mono ?_
   rintro e w2 ⟨rfl,hb2⟩
   rw[HX.out]
   unfold tokV
   have HB2:=Lib.hid (HB1.out.trans (hb2.mono HB1.out.size))
   clear hb2
   go_wp2
   go_ret
   exact⟨ret_bool HF.out.symm,HB2.out⟩
 · have hkb: (x.kind == kind)=false:=beq_eq_false_iff_ne.2 hk
   have HF:Hid (isTk T i kind s=false):=by unfold Hid;rw[HI.out,decide_eq_false hk,Bool.false_and]
   clear hk
   go_enter Tryz.func48,Tryz.ntmps48
   go_wp2_with fail
   refine(HT.out _ (Below.refl _ _)).mono ?_
   rintro e w1 ⟨rfl,hb1⟩
   rw[HX.out]
   unfold tokV
   have HB1:=Lib.hid hb1
   clear hb1
   go_wp2
   go_ret
   exact⟨ret_bool HF.out.symm,HB1.out⟩
end Go.Proofs.YthlofmnmacpogaaGreatDoor
namespace Go.Proofs.YthlofmnmacpogaaGreatDoor
open Go.RowKit
set_option maxRecDepth 100000 in
set_option maxHeartbeats 4000000 in
theorem run_loadP {w:World} {b:Nat} {r:RS} {a1 a2:Option Addr} {n1 n2 k1 k2:Nat} (hp:PB w b r (.slice a1 n1 k1) (.slice a2 n2 k2)): (Instr.loadAt 62 (.pointer (some ⟨b,0,none⟩))).run Tryz.prog w=.ok (pvV r (.slice a1 n1 k1) (.slice a2 n2 k2)) w:=by
 obtain⟨c0,c1,c2,c3,c4,c5,c6,c7,c8,c9,c10,c11,c12,c13,c14,c15⟩:=hp.facts
 simp[go_sem,c0,c1,c2,c3,c4,c5,c6,c7,c8,c9,c10,c11,c12,c13,c14,c15,pvV]
set_option maxRecDepth 100000 in
set_option maxHeartbeats 4000000 in
theorem run_storeP {w:World} {b:Nat} {r:RS} {a1 a2:Option Addr} {n1 n2 k1 k2:Nat} (s:RS) {nv iv:Value} (hp:PB w b r nv iv): (Instr.storeAt 62 (.pointer (some ⟨b,0,none⟩)) (pvV s (.slice a1 n1 k1) (.slice a2 n2 k2))).run Tryz.prog w=.ok () (stP w b s (.slice a1 n1 k1) (.slice a2 n2 k2)):=by
 obtain⟨c0,c1,c2,c3,c4,c5,c6,c7,c8,c9,c10,c11,c12,c13,c14,c15⟩:=hp.facts
 obtain⟨z0,z1,z2,z3,z4,z5,z6,z7,z8,z9,z10,z11,z12,z13,z14,z15⟩:=hp.free
 simp[go_sem,c0,c1,c2,c3,c4,c5,c6,c7,c8,c9,c10,c11,c12,c13,c14,c15,z0,z1,z2,z3,z4,z5,z6,z7,z8,z9,z10,z11,z12,z13,z14,z15,pvV,stP]
structure KeptP (w w':World) (b:Nat):Prop where
 os:w'.os=w.os
 tape:w'.tape=w.tape
 output:w'.output=w.output
 size:w'.heap.size=w.heap.size
 block:∀ k,k≠b→w'.heap[k]?=w.heap[k]?
theorem KeptP.pb {w w':World} {b:Nat} (h:KeptP w w' b) {k:Nat} {r:RS} {nv iv:Value} (hp:PB w k r nv iv) (hne:k≠b):PB w' k r nv iv:=(h.block k hne).trans hp
theorem KeptP.below {w w':World} {b:Nat} (h:KeptP w w' b) {B:Nat} {w0:World} (hb:Below B w0 w) (hB:B≤b):Below B w0 w':=
 ⟨h.os.trans hb.os,h.tape.trans hb.tape,h.output.trans hb.output,by rw[h.size];exact hb.size,fun k hk=>(h.block k (by omega)).trans (hb.block k hk)⟩
theorem KeptP.cell (w:World) (b j:Nat) (v:Value):KeptP w (w.setCell ⟨b,j,none⟩ v) b:=⟨rfl,rfl,rfl,World.size_setCell _ _ _,fun _ hk=>Below.heap_setCell _ _ _ _ hk⟩
theorem KeptP.trans {w w' w'':World} {b:Nat} (h:KeptP w w' b) (h':KeptP w' w'' b):KeptP w w'' b:=⟨h'.os.trans h.os,h'.tape.trans h.tape,h'.output.trans h.output,h'.size.trans h.size,fun k hk=>(h'.block k hk).trans (h.block k hk)⟩
theorem KeptP.stP (w:World) (b:Nat) (s:RS) (nv iv:Value):KeptP w (stP w b s nv iv) b:=by
 unfold Proofs.YthlofmnmacpogaaGreatDoor.stP
 exact(((((((((((((((KeptP.cell _ b 0 _).trans (KeptP.cell _ b 1 _)).trans (KeptP.cell _ b 2 _)).trans (KeptP.cell _ b 3 _)).trans (KeptP.cell _ b 4 _)).trans (KeptP.cell _ b 5 _)).trans (KeptP.cell _ b 6 _)).trans (KeptP.cell _ b 7 _)).trans (KeptP.cell _ b 8 _)).trans (KeptP.cell _ b 9 _)).trans (KeptP.cell _ b 10 _)).trans (KeptP.cell _ b 11 _)).trans (KeptP.cell _ b 12 _)).trans (KeptP.cell _ b 13 _)).trans (KeptP.cell _ b 14 _)).trans (KeptP.cell _ b 15 _)
theorem wpL_loadP {ops:Array Oper} {rest:List Oper} {o:Oper} {a:Act} {Q:Exit→Act→World→Prop} {x:Operand} {w:World} {b:Nat} {r:RS} {a1 a2:Option Addr} {n1 n2 k1 k2:Nat} (hg:o.guard=none) (ho:o.op=.load 62 x) (hx:a.eval x=.pointer (some ⟨b,0,none⟩))
 (hp:PB w b r (.slice a1 n1 k1) (.slice a2 n2 k2)) (h:wpList Tryz.prog ops Q rest (a.put o.dst (pvV r (.slice a1 n1 k1) (.slice a2 n2 k2))) w):wpList Tryz.prog ops Q (o :: rest) a w:=by
 refine wpList_plain hg fun K hK=>?_
 unfold Oper.wp execOp
 simp only[ho,Sem.run_bind,Sem.run_pure,Result.andThen_ok,hx,run_loadP hp]
 exact hK _ _ h
theorem wpL_storeP {ops:Array Oper} {rest:List Oper} {o:Oper} {a:Act} {Q:Exit→Act→World→Prop} {x y:Operand} {w:World} {b:Nat} {r:RS} {a1 a2:Option Addr} {n1 n2 k1 k2:Nat} {s:RS} {nv iv:Value} (hg:o.guard=none) (ho:o.op=.store 62 x y) (hx:a.eval x=.pointer (some ⟨b,0,none⟩)) (hy:a.eval y=pvV s (.slice a1 n1 k1) (.slice a2 n2 k2))
 (hp:PB w b r nv iv) (h:Hid (∀ W',PB W' b s (.slice a1 n1 k1) (.slice a2 n2 k2)→KeptP w W' b→wpList Tryz.prog ops Q rest (a.put o.dst undef) W')):wpList Tryz.prog ops Q (o :: rest) a w:=by
 refine wpList_plain hg fun K hK=>?_
 unfold Oper.wp execOp
 simp only[ho,Sem.run_bind,Sem.run_pure,Result.andThen_ok,hx,hy,run_storeP s hp]
 exact hK _ _ (h.out _ (hp.stored s (.slice a1 n1 k1) (.slice a2 n2 k2)) (KeptP.stP _ _ _ _ _))
theorem run_resP {F:Func} {tmps:Array Value} {k:Nat} {w:World} {b:Nat} {r:RS} {a1 a2:Option Addr} {n1 n2 k1 k2:Nat} (hF:F.results= #[.cell k 62]) (hk:tmps[k]?.getD undef=.pointer (some ⟨b,0,none⟩)) (hp:PB w b r (.slice a1 n1 k1) (.slice a2 n2 k2)): (results F tmps).run Tryz.prog w=.ok (pvV r (.slice a1 n1 k1) (.slice a2 n2 k2)) w:=by
 obtain⟨c0,c1,c2,c3,c4,c5,c6,c7,c8,c9,c10,c11,c12,c13,c14,c15⟩:=hp.facts
 simp[results,hF,go_sem,hk,pvV,c0,c1,c2,c3,c4,c5,c6,c7,c8,c9,c10,c11,c12,c13,c14,c15]
end Go.Proofs.YthlofmnmacpogaaGreatDoor
