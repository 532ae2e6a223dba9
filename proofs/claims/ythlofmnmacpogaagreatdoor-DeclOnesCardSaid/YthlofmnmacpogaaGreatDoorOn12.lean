/- A part of a proof: 'warder/warderlaw07.DeclOnes' returns true for every input and leaves its arguments as they were; no condition. The row lists package-level variables of Go's library with what they hold at the start; the card ties them to the program's text. -/
import Derived.Test.YthlofmnmacpogaaGreatDoorOn11
namespace Go.Proofs.YthlofmnmacpogaaGreatDoor
open Go.RowKit
def stV (x:St) (nv iv:Value):Value:=.agg #[.int .i64 x.kind,.string x.name,.int .i64 x.line,.int .i64 x.col,.int .i64 x.init,nv,.string x.role,.string x.stage,.string x.event,.int .i64 x.times,iv,.bool x.final]
def StB (w:World) (b:Nat) (x:St) (nv iv:Value):Prop:=w.heap[b]?=some (.cells #[.int .i64 x.kind,.string x.name,.int .i64 x.line,.int .i64 x.col,.int .i64 x.init,nv,.string x.role,.string x.stage,.string x.event,.int .i64 x.times,iv,.bool x.final] 37 (0,0))
theorem StB.facts {w:World} {b:Nat} {x:St} {nv iv:Value} (h:StB w b x nv iv):w.cell? ⟨b,0,none⟩ = some (.int .i64 x.kind)∧w.cell? ⟨b,1,none⟩ = some (.string x.name)∧w.cell? ⟨b,2,none⟩ = some (.int .i64 x.line)∧w.cell? ⟨b,3,none⟩ = some (.int .i64 x.col)∧w.cell? ⟨b,4,none⟩ = some (.int .i64 x.init)∧w.cell? ⟨b,5,none⟩ = some nv∧w.cell? ⟨b,6,none⟩ = some (.string x.role)∧w.cell? ⟨b,7,none⟩ = some (.string x.stage)∧w.cell? ⟨b,8,none⟩ = some (.string x.event)∧w.cell? ⟨b,9,none⟩ = some (.int .i64 x.times)∧w.cell? ⟨b,10,none⟩ = some iv∧w.cell? ⟨b,11,none⟩ = some (.bool x.final):=by
 unfold StB at h
 refine⟨?_,?_,?_,?_,?_,?_,?_,?_,?_,?_,?_,?_⟩ <;> simp[World.cell?,h]
theorem StB.free {w:World} {b:Nat} {x:St} {nv iv:Value} (h:StB w b x nv iv):w.frozen? ⟨b,0,none⟩ = false∧w.frozen? ⟨b,1,none⟩ = false∧w.frozen? ⟨b,2,none⟩ = false∧w.frozen? ⟨b,3,none⟩ = false∧w.frozen? ⟨b,4,none⟩ = false∧w.frozen? ⟨b,5,none⟩ = false∧w.frozen? ⟨b,6,none⟩ = false∧w.frozen? ⟨b,7,none⟩ = false∧w.frozen? ⟨b,8,none⟩ = false∧w.frozen? ⟨b,9,none⟩ = false∧w.frozen? ⟨b,10,none⟩ = false∧w.frozen? ⟨b,11,none⟩ = false:=by
 unfold StB at h
 refine⟨?_,?_,?_,?_,?_,?_,?_,?_,?_,?_,?_,?_⟩ <;> simp[World.frozen?,h]
theorem StB.lt {w:World} {b:Nat} {x:St} {nv iv:Value} (h:StB w b x nv iv):b < w.heap.size:=(Array.getElem?_eq_some_iff.1 h).1
theorem StB.alloc {w:World} {b:Nat} {x:St} {nv iv:Value} (h:StB w b x nv iv) (o:Obj):StB (w.alloc o) b x nv iv:=(Below.heap_alloc _ _ _ h.lt).trans h
theorem StB.below {w:World} {b:Nat} {x:St} {nv iv:Value} {w':World} (h:StB w b x nv iv) (hb:Below w.heap.size w w'):StB w' b x nv iv:=(hb.block b h.lt).trans h
theorem StB.grown {w:World} {b:Nat} {x:St} {nv iv:Value} {w':World} {k:Nat} (h:StB w b x nv iv) (hg:w.grownBy w' (some k)) (hne:b≠k):StB w' b x nv iv:=(hg.block b h.lt (fun e=>hne (Option.some.inj e))).trans h
theorem StB.drew {w:World} {b:Nat} {x:St} {nv iv:Value} (h:StB w b x nv iv):StB w.drew b x nv iv:=h
theorem StB.over {w:World} {b:Nat} {x:St} {nv iv:Value} (h:StB w b x nv iv) {k j:Nat} (hne:b≠k) (u:Value):StB (w.setCell ⟨k,j,none⟩ u) b x nv iv:=(Below.heap_setCell _ _ _ _ (by show b≠k;exact hne)).trans h
theorem FtB.grown {w w':World} {b k:Nat} {e l c:Int} (h:FtB w b e l c) (hg:w.grownBy w' (some k)) (hne:b≠k):FtB w' b e l c:=(hg.block b h.lt (fun e=>hne (Option.some.inj e))).trans h
theorem FtB.over1 {w:World} {b:Nat} {e l c:Int} (h:FtB w b e l c) {k j:Nat} (hne:b≠k) (u:Value):FtB (w.setCell ⟨k,j,none⟩ u) b e l c:=(Below.heap_setCell _ _ _ _ (by show b≠k;exact hne)).trans h
set_option maxHeartbeats 2000000 in
theorem StB.stored {w:World} {b:Nat} {x:St} {nv iv:Value} (h:StB w b x nv iv) (y:St) (nv2 iv2:Value):StB ((((((((((((w.setCell ⟨b,0,none⟩ (.int .i64 y.kind)).setCell ⟨b,1,none⟩ (.string y.name)).setCell ⟨b,2,none⟩ (.int .i64 y.line)).setCell ⟨b,3,none⟩ (.int .i64 y.col)).setCell ⟨b,4,none⟩ (.int .i64 y.init)).setCell ⟨b,5,none⟩ nv2).setCell ⟨b,6,none⟩ (.string y.role)).setCell ⟨b,7,none⟩ (.string y.stage)).setCell ⟨b,8,none⟩ (.string y.event)).setCell ⟨b,9,none⟩ (.int .i64 y.times)).setCell ⟨b,10,none⟩ iv2).setCell ⟨b,11,none⟩ (.bool y.final)) b y nv2 iv2:=by
 unfold StB at h ⊢
 obtain⟨w0,ew0⟩:∃ w0,w0=w.setCell ⟨b,0,none⟩ (.int .i64 y.kind):=⟨_,rfl⟩
 have h0:w0.heap[b]?=some (.cells #[.int .i64 y.kind,.string x.name,.int .i64 x.line,.int .i64 x.col,.int .i64 x.init,nv,.string x.role,.string x.stage,.string x.event,.int .i64 x.times,iv,.bool x.final] 37 (0,0)):=by rw[ew0];exact heap_setCell_same _ b 0 _ _ (.int .i64 y.kind) h
 obtain⟨w1,ew1⟩:∃ w1,w1=w0.setCell ⟨b,1,none⟩ (.string y.name):=⟨_,rfl⟩
 have h1:w1.heap[b]?=some (.cells #[.int .i64 y.kind,.string y.name,.int .i64 x.line,.int .i64 x.col,.int .i64 x.init,nv,.string x.role,.string x.stage,.string x.event,.int .i64 x.times,iv,.bool x.final] 37 (0,0)):=by rw[ew1];exact heap_setCell_same _ b 1 _ _ (.string y.name) h0
 obtain⟨w2,ew2⟩:∃ w2,w2=w1.setCell ⟨b,2,none⟩ (.int .i64 y.line):=⟨_,rfl⟩
 have h2:w2.heap[b]?=some (.cells #[.int .i64 y.kind,.string y.name,.int .i64 y.line,.int .i64 x.col,.int .i64 x.init,nv,.string x.role,.string x.stage,.string x.event,.int .i64 x.times,iv,.bool x.final] 37 (0,0)):=by rw[ew2];exact heap_setCell_same _ b 2 _ _ (.int .i64 y.line) h1
 obtain⟨w3,ew3⟩:∃ w3,w3=w2.setCell ⟨b,3,none⟩ (.int .i64 y.col):=⟨_,rfl⟩
 have h3:w3.heap[b]?=some (.cells #[.int .i64 y.kind,.string y.name,.int .i64 y.line,.int .i64 y.col,.int .i64 x.init,nv,.string x.role,.string x.stage,.string x.event,.int .i64 x.times,iv,.bool x.final] 37 (0,0)):=by rw[ew3];exact heap_setCell_same _ b 3 _ _ (.int .i64 y.col) h2
 obtain⟨w4,ew4⟩:∃ w4,w4=w3.setCell ⟨b,4,none⟩ (.int .i64 y.init):=⟨_,rfl⟩
 have h4:w4.heap[b]?=some (.cells #[.int .i64 y.kind,.string y.name,.int .i64 y.line,.int .i64 y.col,.int .i64 y.init,nv,.string x.role,.string x.stage,.string x.event,.int .i64 x.times,iv,.bool x.final] 37 (0,0)):=by rw[ew4];exact heap_setCell_same _ b 4 _ _ (.int .i64 y.init) h3
 obtain⟨w5,ew5⟩:∃ w5,w5=w4.setCell ⟨b,5,none⟩ nv2:=⟨_,rfl⟩
 have h5:w5.heap[b]?=some (.cells #[.int .i64 y.kind,.string y.name,.int .i64 y.line,.int .i64 y.col,.int .i64 y.init,nv2,.string x.role,.string x.stage,.string x.event,.int .i64 x.times,iv,.bool x.final] 37 (0,0)):=by rw[ew5];exact heap_setCell_same _ b 5 _ _ nv2 h4
 obtain⟨w6,ew6⟩:∃ w6,w6=w5.setCell ⟨b,6,none⟩ (.string y.role):=⟨_,rfl⟩
 have h6:w6.heap[b]?=some (.cells #[.int .i64 y.kind,.string y.name,.int .i64 y.line,.int .i64 y.col,.int .i64 y.init,nv2,.string y.role,.string x.stage,.string x.event,.int .i64 x.times,iv,.bool x.final] 37 (0,0)):=by rw[ew6];exact heap_setCell_same _ b 6 _ _ (.string y.role) h5
 obtain⟨w7,ew7⟩:∃ w7,w7=w6.setCell ⟨b,7,none⟩ (.string y.stage):=⟨_,rfl⟩
 have h7:w7.heap[b]?=some (.cells #[.int .i64 y.kind,.string y.name,.int .i64 y.line,.int .i64 y.col,.int .i64 y.init,nv2,.string y.role,.string y.stage,.string x.event,.int .i64 x.times,iv,.bool x.final] 37 (0,0)):=by rw[ew7];exact heap_setCell_same _ b 7 _ _ (.string y.stage) h6
 obtain⟨w8,ew8⟩:∃ w8,w8=w7.setCell ⟨b,8,none⟩ (.string y.event):=⟨_,rfl⟩
 have h8:w8.heap[b]?=some (.cells #[.int .i64 y.kind,.string y.name,.int .i64 y.line,.int .i64 y.col,.int .i64 y.init,nv2,.string y.role,.string y.stage,.string y.event,.int .i64 x.times,iv,.bool x.final] 37 (0,0)):=by rw[ew8];exact heap_setCell_same _ b 8 _ _ (.string y.event) h7
 obtain⟨w9,ew9⟩:∃ w9,w9=w8.setCell ⟨b,9,none⟩ (.int .i64 y.times):=⟨_,rfl⟩
 have h9:w9.heap[b]?=some (.cells #[.int .i64 y.kind,.string y.name,.int .i64 y.line,.int .i64 y.col,.int .i64 y.init,nv2,.string y.role,.string y.stage,.string y.event,.int .i64 y.times,iv,.bool x.final] 37 (0,0)):=by rw[ew9];exact heap_setCell_same _ b 9 _ _ (.int .i64 y.times) h8
 obtain⟨w10,ew10⟩:∃ w10,w10=w9.setCell ⟨b,10,none⟩ iv2:=⟨_,rfl⟩
 have h10:w10.heap[b]?=some (.cells #[.int .i64 y.kind,.string y.name,.int .i64 y.line,.int .i64 y.col,.int .i64 y.init,nv2,.string y.role,.string y.stage,.string y.event,.int .i64 y.times,iv2,.bool x.final] 37 (0,0)):=by rw[ew10];exact heap_setCell_same _ b 10 _ _ iv2 h9
 obtain⟨w11,ew11⟩:∃ w11,w11=w10.setCell ⟨b,11,none⟩ (.bool y.final):=⟨_,rfl⟩
 have h11:w11.heap[b]?=some (.cells #[.int .i64 y.kind,.string y.name,.int .i64 y.line,.int .i64 y.col,.int .i64 y.init,nv2,.string y.role,.string y.stage,.string y.event,.int .i64 y.times,iv2,.bool y.final] 37 (0,0)):=by rw[ew11];exact heap_setCell_same _ b 11 _ _ (.bool y.final) h10
 rw[←ew0,←ew1,←ew2,←ew3,←ew4,←ew5,←ew6,←ew7,←ew8,←ew9,←ew10,←ew11]
 exact h11
set_option maxHeartbeats 2000000 in
theorem StB.row {w:World} {b:Nat} {x:St} {nv iv:Value} {base n:Nat} {t:TypeId} {sz:Nat} {v:Value} {xs:List Value} (h:StB w b x nv iv) (hr:w.ownsRow base t sz v n xs) (ht:37≠t) (y:St) (nv2 iv2:Value): ((((((((((((w.setCell ⟨b,0,none⟩ (.int .i64 y.kind)).setCell ⟨b,1,none⟩ (.string y.name)).setCell ⟨b,2,none⟩ (.int .i64 y.line)).setCell ⟨b,3,none⟩ (.int .i64 y.col)).setCell ⟨b,4,none⟩ (.int .i64 y.init)).setCell ⟨b,5,none⟩ nv2).setCell ⟨b,6,none⟩ (.string y.role)).setCell ⟨b,7,none⟩ (.string y.stage)).setCell ⟨b,8,none⟩ (.string y.event)).setCell ⟨b,9,none⟩ (.int .i64 y.times)).setCell ⟨b,10,none⟩ iv2).setCell ⟨b,11,none⟩ (.bool y.final)).ownsRow base t sz v n xs:=by
 unfold StB at h
 obtain⟨w0,ew0⟩:∃ w0,w0=w.setCell ⟨b,0,none⟩ (.int .i64 y.kind):=⟨_,rfl⟩
 have h0:w0.heap[b]?=some (.cells #[.int .i64 y.kind,.string x.name,.int .i64 x.line,.int .i64 x.col,.int .i64 x.init,nv,.string x.role,.string x.stage,.string x.event,.int .i64 x.times,iv,.bool x.final] 37 (0,0)):=by rw[ew0];exact heap_setCell_same _ b 0 _ _ (.int .i64 y.kind) h
 obtain⟨w1,ew1⟩:∃ w1,w1=w0.setCell ⟨b,1,none⟩ (.string y.name):=⟨_,rfl⟩
 have h1:w1.heap[b]?=some (.cells #[.int .i64 y.kind,.string y.name,.int .i64 x.line,.int .i64 x.col,.int .i64 x.init,nv,.string x.role,.string x.stage,.string x.event,.int .i64 x.times,iv,.bool x.final] 37 (0,0)):=by rw[ew1];exact heap_setCell_same _ b 1 _ _ (.string y.name) h0
 obtain⟨w2,ew2⟩:∃ w2,w2=w1.setCell ⟨b,2,none⟩ (.int .i64 y.line):=⟨_,rfl⟩
 have h2:w2.heap[b]?=some (.cells #[.int .i64 y.kind,.string y.name,.int .i64 y.line,.int .i64 x.col,.int .i64 x.init,nv,.string x.role,.string x.stage,.string x.event,.int .i64 x.times,iv,.bool x.final] 37 (0,0)):=by rw[ew2];exact heap_setCell_same _ b 2 _ _ (.int .i64 y.line) h1
 obtain⟨w3,ew3⟩:∃ w3,w3=w2.setCell ⟨b,3,none⟩ (.int .i64 y.col):=⟨_,rfl⟩
 have h3:w3.heap[b]?=some (.cells #[.int .i64 y.kind,.string y.name,.int .i64 y.line,.int .i64 y.col,.int .i64 x.init,nv,.string x.role,.string x.stage,.string x.event,.int .i64 x.times,iv,.bool x.final] 37 (0,0)):=by rw[ew3];exact heap_setCell_same _ b 3 _ _ (.int .i64 y.col) h2
 obtain⟨w4,ew4⟩:∃ w4,w4=w3.setCell ⟨b,4,none⟩ (.int .i64 y.init):=⟨_,rfl⟩
 have h4:w4.heap[b]?=some (.cells #[.int .i64 y.kind,.string y.name,.int .i64 y.line,.int .i64 y.col,.int .i64 y.init,nv,.string x.role,.string x.stage,.string x.event,.int .i64 x.times,iv,.bool x.final] 37 (0,0)):=by rw[ew4];exact heap_setCell_same _ b 4 _ _ (.int .i64 y.init) h3
 obtain⟨w5,ew5⟩:∃ w5,w5=w4.setCell ⟨b,5,none⟩ nv2:=⟨_,rfl⟩
 have h5:w5.heap[b]?=some (.cells #[.int .i64 y.kind,.string y.name,.int .i64 y.line,.int .i64 y.col,.int .i64 y.init,nv2,.string x.role,.string x.stage,.string x.event,.int .i64 x.times,iv,.bool x.final] 37 (0,0)):=by rw[ew5];exact heap_setCell_same _ b 5 _ _ nv2 h4
 obtain⟨w6,ew6⟩:∃ w6,w6=w5.setCell ⟨b,6,none⟩ (.string y.role):=⟨_,rfl⟩
 have h6:w6.heap[b]?=some (.cells #[.int .i64 y.kind,.string y.name,.int .i64 y.line,.int .i64 y.col,.int .i64 y.init,nv2,.string y.role,.string x.stage,.string x.event,.int .i64 x.times,iv,.bool x.final] 37 (0,0)):=by rw[ew6];exact heap_setCell_same _ b 6 _ _ (.string y.role) h5
 obtain⟨w7,ew7⟩:∃ w7,w7=w6.setCell ⟨b,7,none⟩ (.string y.stage):=⟨_,rfl⟩
 have h7:w7.heap[b]?=some (.cells #[.int .i64 y.kind,.string y.name,.int .i64 y.line,.int .i64 y.col,.int .i64 y.init,nv2,.string y.role,.string y.stage,.string x.event,.int .i64 x.times,iv,.bool x.final] 37 (0,0)):=by rw[ew7];exact heap_setCell_same _ b 7 _ _ (.string y.stage) h6
 obtain⟨w8,ew8⟩:∃ w8,w8=w7.setCell ⟨b,8,none⟩ (.string y.event):=⟨_,rfl⟩
 have h8:w8.heap[b]?=some (.cells #[.int .i64 y.kind,.string y.name,.int .i64 y.line,.int .i64 y.col,.int .i64 y.init,nv2,.string y.role,.string y.stage,.string y.event,.int .i64 x.times,iv,.bool x.final] 37 (0,0)):=by rw[ew8];exact heap_setCell_same _ b 8 _ _ (.string y.event) h7
 obtain⟨w9,ew9⟩:∃ w9,w9=w8.setCell ⟨b,9,none⟩ (.int .i64 y.times):=⟨_,rfl⟩
 have h9:w9.heap[b]?=some (.cells #[.int .i64 y.kind,.string y.name,.int .i64 y.line,.int .i64 y.col,.int .i64 y.init,nv2,.string y.role,.string y.stage,.string y.event,.int .i64 y.times,iv,.bool x.final] 37 (0,0)):=by rw[ew9];exact heap_setCell_same _ b 9 _ _ (.int .i64 y.times) h8
 obtain⟨w10,ew10⟩:∃ w10,w10=w9.setCell ⟨b,10,none⟩ iv2:=⟨_,rfl⟩
 have h10:w10.heap[b]?=some (.cells #[.int .i64 y.kind,.string y.name,.int .i64 y.line,.int .i64 y.col,.int .i64 y.init,nv2,.string y.role,.string y.stage,.string y.event,.int .i64 y.times,iv2,.bool x.final] 37 (0,0)):=by rw[ew10];exact heap_setCell_same _ b 10 _ _ iv2 h9
 obtain⟨w11,ew11⟩:∃ w11,w11=w10.setCell ⟨b,11,none⟩ (.bool y.final):=⟨_,rfl⟩
 have h11:w11.heap[b]?=some (.cells #[.int .i64 y.kind,.string y.name,.int .i64 y.line,.int .i64 y.col,.int .i64 y.init,nv2,.string y.role,.string y.stage,.string y.event,.int .i64 y.times,iv2,.bool y.final] 37 (0,0)):=by rw[ew11];exact heap_setCell_same _ b 11 _ _ (.bool y.final) h10
 have r0:w0.ownsRow base t sz v n xs:=by rw[ew0];exact row_store hr h ht 0 (.int .i64 y.kind)
 have r1:w1.ownsRow base t sz v n xs:=by rw[ew1];exact row_store r0 h0 ht 1 (.string y.name)
 have r2:w2.ownsRow base t sz v n xs:=by rw[ew2];exact row_store r1 h1 ht 2 (.int .i64 y.line)
 have r3:w3.ownsRow base t sz v n xs:=by rw[ew3];exact row_store r2 h2 ht 3 (.int .i64 y.col)
 have r4:w4.ownsRow base t sz v n xs:=by rw[ew4];exact row_store r3 h3 ht 4 (.int .i64 y.init)
 have r5:w5.ownsRow base t sz v n xs:=by rw[ew5];exact row_store r4 h4 ht 5 nv2
 have r6:w6.ownsRow base t sz v n xs:=by rw[ew6];exact row_store r5 h5 ht 6 (.string y.role)
 have r7:w7.ownsRow base t sz v n xs:=by rw[ew7];exact row_store r6 h6 ht 7 (.string y.stage)
 have r8:w8.ownsRow base t sz v n xs:=by rw[ew8];exact row_store r7 h7 ht 8 (.string y.event)
 have r9:w9.ownsRow base t sz v n xs:=by rw[ew9];exact row_store r8 h8 ht 9 (.int .i64 y.times)
 have r10:w10.ownsRow base t sz v n xs:=by rw[ew10];exact row_store r9 h9 ht 10 iv2
 have r11:w11.ownsRow base t sz v n xs:=by rw[ew11];exact row_store r10 h10 ht 11 (.bool y.final)
 rw[←ew0,←ew1,←ew2,←ew3,←ew4,←ew5,←ew6,←ew7,←ew8,←ew9,←ew10,←ew11]
 exact r11
theorem below_st {w0 w:World} {B k:Nat} (h:Below B w0 w) (hk:B≤k) (v0 v1 v2 v3 v4 v5 v6 v7 v8 v9 v10 v11:Value):Below B w0 ((((((((((((w.setCell ⟨k,0,none⟩ v0).setCell ⟨k,1,none⟩ v1).setCell ⟨k,2,none⟩ v2).setCell ⟨k,3,none⟩ v3).setCell ⟨k,4,none⟩ v4).setCell ⟨k,5,none⟩ v5).setCell ⟨k,6,none⟩ v6).setCell ⟨k,7,none⟩ v7).setCell ⟨k,8,none⟩ v8).setCell ⟨k,9,none⟩ v9).setCell ⟨k,10,none⟩ v10).setCell ⟨k,11,none⟩ v11):=
 (((((((((((h.setCell (p:=⟨k,0,none⟩) hk _).setCell (p:=⟨k,1,none⟩) hk _).setCell (p:=⟨k,2,none⟩) hk _).setCell (p:=⟨k,3,none⟩) hk _).setCell (p:=⟨k,4,none⟩) hk _).setCell (p:=⟨k,5,none⟩) hk _).setCell (p:=⟨k,6,none⟩) hk _).setCell (p:=⟨k,7,none⟩) hk _).setCell (p:=⟨k,8,none⟩) hk _).setCell (p:=⟨k,9,none⟩) hk _).setCell (p:=⟨k,10,none⟩) hk _).setCell (p:=⟨k,11,none⟩) hk _
def OnePost (w:World) (p:DR) (e:Ending) (w':World):Prop:=
 match p with
 | .ok x a=>∃ nv iv,e=.returned (.tuple #[stV x nv iv,.int .i64 a,.agg #[.int .i64 0,.int .i64 0,.int .i64 0]])∧w'.ownsRow w.heap.size 9 1 nv x.names.length (strV x.names)∧w'.ownsRow w.heap.size 87 9 iv x.ifs.length (itFlat x.ifs)∧Below w.heap.size w w'
 | .bad er l c=>e=.returned (.tuple #[stV noSt (.slice none 0 0) (.slice none 0 0),.int .i64 0,.agg #[.int .i64 er,.int .i64 l,.int .i64 c]])∧Below w.heap.size w w'
structure OneS (w W:World) (B:Nat) (lv nv iv:Value) (T:List Tk) (r:RS):Prop where
 rd:Dr W B (w.heap.size+2) lv nv iv T r
 st:StB W w.heap.size noSt (.slice none 0 0) (.slice none 0 0)
 ft:FtB W (w.heap.size+1) 0 0 0
 lo:Below w.heap.size w W
 eq:B=w.heap.size
theorem OneS.then {w W W2:World} {B:Nat} {lv nv iv:Value} {T:List Tk} {r:RS} (h:OneS w W B lv nv iv T r) (hb:Below W.heap.size W W2):OneS w W2 B lv nv iv T r:=
 ⟨h.rd.keep hb (by rw[h.eq];exact h.lo.size),h.st.below hb,h.ft.below hb,h.lo.trans (hb.mono h.lo.size),h.eq⟩
theorem OneS.next {w W W2:World} {B:Nat} {lv nv iv nv2 iv2:Value} {T:List Tk} {r r2:RS} (h:OneS w W B lv nv iv T r) (k:DT W W2 B (w.heap.size+2) lv nv2 iv2 T r2):OneS w W2 B lv nv2 iv2 T r2:=
 ⟨k.rd,h.st.grown k.gb (by omega),h.ft.grown k.gb (by omega),⟨k.gb.os.trans h.lo.os,k.gb.tape.trans h.lo.tape,k.gb.output.trans h.lo.output,Nat.le_trans h.lo.size k.gb.size,fun q hq=>(k.gb.block q (Nat.lt_of_lt_of_le hq h.lo.size) (fun e=>by have:=Option.some.inj e;omega)).trans (h.lo.block q hq)⟩,h.eq⟩
theorem OneS.size {w W:World} {B:Nat} {lv nv iv:Value} {T:List Tk} {r:RS} (h:OneS w W B lv nv iv T r):B≤W.heap.size:=by rw[h.eq];exact h.lo.size
theorem OneS.bad {w W:World} {B:Nat} {lv nv iv:Value} {T:List Tk} {r:RS} (h:OneS w W B lv nv iv T r) (e l c:Int):Hid (StB (((((((((((((((W.setCell ⟨w.heap.size,0,none⟩ (.int .i64 noSt.kind)).setCell ⟨w.heap.size,1,none⟩ (.string noSt.name)).setCell ⟨w.heap.size,2,none⟩ (.int .i64 noSt.line)).setCell ⟨w.heap.size,3,none⟩ (.int .i64 noSt.col)).setCell ⟨w.heap.size,4,none⟩ (.int .i64 noSt.init)).setCell ⟨w.heap.size,5,none⟩ ((.slice none 0 0))).setCell ⟨w.heap.size,6,none⟩ (.string noSt.role)).setCell ⟨w.heap.size,7,none⟩ (.string noSt.stage)).setCell ⟨w.heap.size,8,none⟩ (.string noSt.event)).setCell ⟨w.heap.size,9,none⟩ (.int .i64 noSt.times)).setCell ⟨w.heap.size,10,none⟩ ((.slice none 0 0))).setCell ⟨w.heap.size,11,none⟩ (.bool noSt.final)).setCell ⟨(w.heap.size+1),0,none⟩ (.int .i64 e)).setCell ⟨(w.heap.size+1),1,none⟩ (.int .i64 l)).setCell ⟨(w.heap.size+1),2,none⟩ (.int .i64 c)) w.heap.size noSt (.slice none 0 0) (.slice none 0 0)∧FtB (((((((((((((((W.setCell ⟨w.heap.size,0,none⟩ (.int .i64 noSt.kind)).setCell ⟨w.heap.size,1,none⟩ (.string noSt.name)).setCell ⟨w.heap.size,2,none⟩ (.int .i64 noSt.line)).setCell ⟨w.heap.size,3,none⟩ (.int .i64 noSt.col)).setCell ⟨w.heap.size,4,none⟩ (.int .i64 noSt.init)).setCell ⟨w.heap.size,5,none⟩ ((.slice none 0 0))).setCell ⟨w.heap.size,6,none⟩ (.string noSt.role)).setCell ⟨w.heap.size,7,none⟩ (.string noSt.stage)).setCell ⟨w.heap.size,8,none⟩ (.string noSt.event)).setCell ⟨w.heap.size,9,none⟩ (.int .i64 noSt.times)).setCell ⟨w.heap.size,10,none⟩ ((.slice none 0 0))).setCell ⟨w.heap.size,11,none⟩ (.bool noSt.final)).setCell ⟨(w.heap.size+1),0,none⟩ (.int .i64 e)).setCell ⟨(w.heap.size+1),1,none⟩ (.int .i64 l)).setCell ⟨(w.heap.size+1),2,none⟩ (.int .i64 c)) (w.heap.size+1) e l c∧Below w.heap.size w (((((((((((((((W.setCell ⟨w.heap.size,0,none⟩ (.int .i64 noSt.kind)).setCell ⟨w.heap.size,1,none⟩ (.string noSt.name)).setCell ⟨w.heap.size,2,none⟩ (.int .i64 noSt.line)).setCell ⟨w.heap.size,3,none⟩ (.int .i64 noSt.col)).setCell ⟨w.heap.size,4,none⟩ (.int .i64 noSt.init)).setCell ⟨w.heap.size,5,none⟩ ((.slice none 0 0))).setCell ⟨w.heap.size,6,none⟩ (.string noSt.role)).setCell ⟨w.heap.size,7,none⟩ (.string noSt.stage)).setCell ⟨w.heap.size,8,none⟩ (.string noSt.event)).setCell ⟨w.heap.size,9,none⟩ (.int .i64 noSt.times)).setCell ⟨w.heap.size,10,none⟩ ((.slice none 0 0))).setCell ⟨w.heap.size,11,none⟩ (.bool noSt.final)).setCell ⟨(w.heap.size+1),0,none⟩ (.int .i64 e)).setCell ⟨(w.heap.size+1),1,none⟩ (.int .i64 l)).setCell ⟨(w.heap.size+1),2,none⟩ (.int .i64 c))):=by
 have hs:=h.st.stored noSt (.slice none 0 0) (.slice none 0 0)
 have hf:FtB ((((((((((((W.setCell ⟨w.heap.size,0,none⟩ (.int .i64 noSt.kind)).setCell ⟨w.heap.size,1,none⟩ (.string noSt.name)).setCell ⟨w.heap.size,2,none⟩ (.int .i64 noSt.line)).setCell ⟨w.heap.size,3,none⟩ (.int .i64 noSt.col)).setCell ⟨w.heap.size,4,none⟩ (.int .i64 noSt.init)).setCell ⟨w.heap.size,5,none⟩ ((.slice none 0 0))).setCell ⟨w.heap.size,6,none⟩ (.string noSt.role)).setCell ⟨w.heap.size,7,none⟩ (.string noSt.stage)).setCell ⟨w.heap.size,8,none⟩ (.string noSt.event)).setCell ⟨w.heap.size,9,none⟩ (.int .i64 noSt.times)).setCell ⟨w.heap.size,10,none⟩ ((.slice none 0 0))).setCell ⟨w.heap.size,11,none⟩ (.bool noSt.final)) (w.heap.size+1) 0 0 0:=((((((((((((h.ft).over1 (by omega) _).over1 (by omega) _).over1 (by omega) _).over1 (by omega) _).over1 (by omega) _).over1 (by omega) _).over1 (by omega) _).over1 (by omega) _).over1 (by omega) _).over1 (by omega) _).over1 (by omega) _).over1 (by omega) _
 exact⟨((hs.over (by omega) _).over (by omega) _).over (by omega) _,hf.stored e l c,below_fault (below_st h.lo (Nat.le_refl _) _ _ _ _ _ _ _ _ _ _ _ _) (by omega) _ _ _⟩
end Go.Proofs.YthlofmnmacpogaaGreatDoor
