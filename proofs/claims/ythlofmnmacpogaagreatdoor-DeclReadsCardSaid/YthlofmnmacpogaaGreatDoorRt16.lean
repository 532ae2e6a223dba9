/- A part of a proof of DeclReadsProof. -/
import Derived.Test.YthlofmnmacpogaaGreatDoorRt15
import Derived.Deep.DeepCutAuto
set_option maxRecDepth 100000
set_option maxHeartbeats 40000000
namespace Go.Proofs.YthlofmnmacpogaaGreatDoor
open Go.RowKit
def strV (l:List ByteArray):List Value:=l.map Value.string
structure Dr (w:World) (B b:Nat) (lv nv iv:Value) (T:List Tk) (r:RS):Prop where
 blk:w.heap[b]?=some (.cells #[lv,.int .i64 r.i,.int .i64 r.x.kind,.string r.x.name,.int .i64 r.x.line,.int .i64 r.x.col,.int .i64 r.x.init,nv,.string r.x.role,.string r.x.stage,.string r.x.event,.int .i64 r.x.times,iv,.bool r.x.final,.int .i64 r.er,.int .i64 r.line,.int .i64 r.col] 53 (0,0))
 low:B≤b
 tk:TkIn w B lv T
 nm:w.ownsRow B 9 1 nv r.x.names.length (strV r.x.names)
 it:w.ownsRow B 87 9 iv r.x.ifs.length (itFlat r.x.ifs)
theorem Dr.lt {w:World} {B b:Nat} {lv nv iv:Value} {T:List Tk} {r:RS} (h:Dr w B b lv nv iv T r):b < w.heap.size:=(Array.getElem?_eq_some_iff.1 h.blk).1
theorem Dr.facts {w:World} {B b:Nat} {lv nv iv:Value} {T:List Tk} {r:RS} (h:Dr w B b lv nv iv T r) :
 w.cell? ⟨b,0,none⟩ = some lv∧w.cell? ⟨b,1,none⟩ = some (.int .i64 r.i)∧w.cell? ⟨b,2,none⟩ = some (.int .i64 r.x.kind)∧w.cell? ⟨b,3,none⟩ = some (.string r.x.name)∧w.cell? ⟨b,4,none⟩ = some (.int .i64 r.x.line)∧w.cell? ⟨b,5,none⟩ = some (.int .i64 r.x.col)∧w.cell? ⟨b,6,none⟩ = some (.int .i64 r.x.init)∧w.cell? ⟨b,7,none⟩ = some nv∧w.cell? ⟨b,8,none⟩ = some (.string r.x.role)∧w.cell? ⟨b,9,none⟩ = some (.string r.x.stage)∧w.cell? ⟨b,10,none⟩ = some (.string r.x.event)∧w.cell? ⟨b,11,none⟩ = some (.int .i64 r.x.times)∧w.cell? ⟨b,12,none⟩ = some iv∧w.cell? ⟨b,13,none⟩ = some (.bool r.x.final)∧w.cell? ⟨b,14,none⟩ = some (.int .i64 r.er)∧w.cell? ⟨b,15,none⟩ = some (.int .i64 r.line)∧w.cell? ⟨b,16,none⟩ = some (.int .i64 r.col):=by
 have hb:=h.blk
 refine⟨?_,?_,?_,?_,?_,?_,?_,?_,?_,?_,?_,?_,?_,?_,?_,?_,?_⟩ <;> simp[World.cell?,hb]
theorem Dr.free {w:World} {B b:Nat} {lv nv iv:Value} {T:List Tk} {r:RS} (h:Dr w B b lv nv iv T r) :
 w.frozen? ⟨b,0,none⟩ = false∧w.frozen? ⟨b,1,none⟩ = false∧w.frozen? ⟨b,2,none⟩ = false∧w.frozen? ⟨b,3,none⟩ = false∧w.frozen? ⟨b,4,none⟩ = false∧w.frozen? ⟨b,5,none⟩ = false∧w.frozen? ⟨b,6,none⟩ = false∧w.frozen? ⟨b,7,none⟩ = false∧w.frozen? ⟨b,8,none⟩ = false∧w.frozen? ⟨b,9,none⟩ = false∧w.frozen? ⟨b,10,none⟩ = false∧w.frozen? ⟨b,11,none⟩ = false∧w.frozen? ⟨b,12,none⟩ = false∧w.frozen? ⟨b,13,none⟩ = false∧w.frozen? ⟨b,14,none⟩ = false∧w.frozen? ⟨b,15,none⟩ = false∧w.frozen? ⟨b,16,none⟩ = false:=by
 have hb:=h.blk
 refine⟨?_,?_,?_,?_,?_,?_,?_,?_,?_,?_,?_,?_,?_,?_,?_,?_,?_⟩ <;> simp[World.frozen?,hb]
theorem Dr.keep {w:World} {B b:Nat} {lv nv iv:Value} {T:List Tk} {r:RS} {w':World} (h:Dr w B b lv nv iv T r) (hb:Below w.heap.size w w') (hB:B≤w.heap.size):Dr w' B b lv nv iv T r:=
 ⟨(hb.block b h.lt).trans h.blk,h.low,h.tk.below (hb.mono hB),owns_below h.nm hb,owns_below h.it hb⟩
theorem Dr.drew {w:World} {B b:Nat} {lv nv iv:Value} {T:List Tk} {r:RS} (h:Dr w B b lv nv iv T r):Dr w.drew B b lv nv iv T r:=⟨h.blk,h.low,h.tk,h.nm,h.it⟩
theorem Dr.setI {w:World} {B b:Nat} {lv nv iv:Value} {T:List Tk} {r:RS} (h:Dr w B b lv nv iv T r) (j:Int):Dr (w.setCell ⟨b,1,none⟩ (.int .i64 j)) B b lv nv iv T ({ r with i:=j }):=
 ⟨heap_setCell_same w b 1 _ _ _ h.blk,h.low,h.tk.below ((Below.refl B w).setCell (p:=⟨b,1,none⟩) h.low _),row_store h.nm h.blk (by decide) _ _,row_store h.it h.blk (by decide) _ _⟩
theorem Dr.setKind {w:World} {B b:Nat} {lv nv iv:Value} {T:List Tk} {r:RS} (h:Dr w B b lv nv iv T r) (j:Int):Dr (w.setCell ⟨b,2,none⟩ (.int .i64 j)) B b lv nv iv T ({ r with x:={ r.x with kind:=j } }):=
 ⟨heap_setCell_same w b 2 _ _ _ h.blk,h.low,h.tk.below ((Below.refl B w).setCell (p:=⟨b,2,none⟩) h.low _),row_store h.nm h.blk (by decide) _ _,row_store h.it h.blk (by decide) _ _⟩
theorem Dr.setName {w:World} {B b:Nat} {lv nv iv:Value} {T:List Tk} {r:RS} (h:Dr w B b lv nv iv T r) (s:ByteArray):Dr (w.setCell ⟨b,3,none⟩ (.string s)) B b lv nv iv T (setName s r):=
 ⟨heap_setCell_same w b 3 _ _ _ h.blk,h.low,h.tk.below ((Below.refl B w).setCell (p:=⟨b,3,none⟩) h.low _),row_store h.nm h.blk (by decide) _ _,row_store h.it h.blk (by decide) _ _⟩
theorem Dr.setLine {w:World} {B b:Nat} {lv nv iv:Value} {T:List Tk} {r:RS} (h:Dr w B b lv nv iv T r) (j:Int):Dr (w.setCell ⟨b,4,none⟩ (.int .i64 j)) B b lv nv iv T ({ r with x:={ r.x with line:=j } }):=
 ⟨heap_setCell_same w b 4 _ _ _ h.blk,h.low,h.tk.below ((Below.refl B w).setCell (p:=⟨b,4,none⟩) h.low _),row_store h.nm h.blk (by decide) _ _,row_store h.it h.blk (by decide) _ _⟩
theorem Dr.setCol {w:World} {B b:Nat} {lv nv iv:Value} {T:List Tk} {r:RS} (h:Dr w B b lv nv iv T r) (j:Int):Dr (w.setCell ⟨b,5,none⟩ (.int .i64 j)) B b lv nv iv T ({ r with x:={ r.x with col:=j } }):=
 ⟨heap_setCell_same w b 5 _ _ _ h.blk,h.low,h.tk.below ((Below.refl B w).setCell (p:=⟨b,5,none⟩) h.low _),row_store h.nm h.blk (by decide) _ _,row_store h.it h.blk (by decide) _ _⟩
theorem Dr.setInit {w:World} {B b:Nat} {lv nv iv:Value} {T:List Tk} {r:RS} (h:Dr w B b lv nv iv T r) (j:Int):Dr (w.setCell ⟨b,6,none⟩ (.int .i64 j)) B b lv nv iv T (setInit j r):=
 ⟨heap_setCell_same w b 6 _ _ _ h.blk,h.low,h.tk.below ((Below.refl B w).setCell (p:=⟨b,6,none⟩) h.low _),row_store h.nm h.blk (by decide) _ _,row_store h.it h.blk (by decide) _ _⟩
theorem Dr.setRole {w:World} {B b:Nat} {lv nv iv:Value} {T:List Tk} {r:RS} (h:Dr w B b lv nv iv T r) (s:ByteArray):Dr (w.setCell ⟨b,8,none⟩ (.string s)) B b lv nv iv T (setRole s r):=
 ⟨heap_setCell_same w b 8 _ _ _ h.blk,h.low,h.tk.below ((Below.refl B w).setCell (p:=⟨b,8,none⟩) h.low _),row_store h.nm h.blk (by decide) _ _,row_store h.it h.blk (by decide) _ _⟩
theorem Dr.setStage {w:World} {B b:Nat} {lv nv iv:Value} {T:List Tk} {r:RS} (h:Dr w B b lv nv iv T r) (s:ByteArray):Dr (w.setCell ⟨b,9,none⟩ (.string s)) B b lv nv iv T (setStage s r):=
 ⟨heap_setCell_same w b 9 _ _ _ h.blk,h.low,h.tk.below ((Below.refl B w).setCell (p:=⟨b,9,none⟩) h.low _),row_store h.nm h.blk (by decide) _ _,row_store h.it h.blk (by decide) _ _⟩
theorem Dr.setEvent {w:World} {B b:Nat} {lv nv iv:Value} {T:List Tk} {r:RS} (h:Dr w B b lv nv iv T r) (s:ByteArray):Dr (w.setCell ⟨b,10,none⟩ (.string s)) B b lv nv iv T (setEvent s r):=
 ⟨heap_setCell_same w b 10 _ _ _ h.blk,h.low,h.tk.below ((Below.refl B w).setCell (p:=⟨b,10,none⟩) h.low _),row_store h.nm h.blk (by decide) _ _,row_store h.it h.blk (by decide) _ _⟩
theorem Dr.setTimes {w:World} {B b:Nat} {lv nv iv:Value} {T:List Tk} {r:RS} (h:Dr w B b lv nv iv T r) (j:Int):Dr (w.setCell ⟨b,11,none⟩ (.int .i64 j)) B b lv nv iv T (setTimes j r):=
 ⟨heap_setCell_same w b 11 _ _ _ h.blk,h.low,h.tk.below ((Below.refl B w).setCell (p:=⟨b,11,none⟩) h.low _),row_store h.nm h.blk (by decide) _ _,row_store h.it h.blk (by decide) _ _⟩
theorem Dr.setFinal {w:World} {B b:Nat} {lv nv iv:Value} {T:List Tk} {r:RS} (h:Dr w B b lv nv iv T r) (f:Bool):Dr (w.setCell ⟨b,13,none⟩ (.bool f)) B b lv nv iv T (setFinal f r):=
 ⟨heap_setCell_same w b 13 _ _ _ h.blk,h.low,h.tk.below ((Below.refl B w).setCell (p:=⟨b,13,none⟩) h.low _),row_store h.nm h.blk (by decide) _ _,row_store h.it h.blk (by decide) _ _⟩
theorem Dr.setEr {w:World} {B b:Nat} {lv nv iv:Value} {T:List Tk} {r:RS} (h:Dr w B b lv nv iv T r) (j:Int):Dr (w.setCell ⟨b,14,none⟩ (.int .i64 j)) B b lv nv iv T ({ r with er:=j }):=
 ⟨heap_setCell_same w b 14 _ _ _ h.blk,h.low,h.tk.below ((Below.refl B w).setCell (p:=⟨b,14,none⟩) h.low _),row_store h.nm h.blk (by decide) _ _,row_store h.it h.blk (by decide) _ _⟩
theorem Dr.setELine {w:World} {B b:Nat} {lv nv iv:Value} {T:List Tk} {r:RS} (h:Dr w B b lv nv iv T r) (j:Int):Dr (w.setCell ⟨b,15,none⟩ (.int .i64 j)) B b lv nv iv T ({ r with line:=j }):=
 ⟨heap_setCell_same w b 15 _ _ _ h.blk,h.low,h.tk.below ((Below.refl B w).setCell (p:=⟨b,15,none⟩) h.low _),row_store h.nm h.blk (by decide) _ _,row_store h.it h.blk (by decide) _ _⟩
theorem Dr.setECol {w:World} {B b:Nat} {lv nv iv:Value} {T:List Tk} {r:RS} (h:Dr w B b lv nv iv T r) (j:Int):Dr (w.setCell ⟨b,16,none⟩ (.int .i64 j)) B b lv nv iv T ({ r with col:=j }):=
 ⟨heap_setCell_same w b 16 _ _ _ h.blk,h.low,h.tk.below ((Below.refl B w).setCell (p:=⟨b,16,none⟩) h.low _),row_store h.nm h.blk (by decide) _ _,row_store h.it h.blk (by decide) _ _⟩
theorem Dr.setNames {w:World} {B b:Nat} {lv nv iv:Value} {T:List Tk} {r:RS} (h:Dr w B b lv nv iv T r) {v:Value} {l:List ByteArray} (hn:w.ownsRow B 9 1 v l.length (strV l)):Dr (w.setCell ⟨b,7,none⟩ v) B b lv v iv T (setNames l r):=
 ⟨heap_setCell_same w b 7 _ _ _ h.blk,h.low,h.tk.below ((Below.refl B w).setCell (p:=⟨b,7,none⟩) h.low _),row_store hn h.blk (by decide) _ _,row_store h.it h.blk (by decide) _ _⟩
theorem Dr.setIfs {w:World} {B b:Nat} {lv nv iv:Value} {T:List Tk} {r:RS} (h:Dr w B b lv nv iv T r) {v:Value} {l:List It} (hn:w.ownsRow B 87 9 v l.length (itFlat l)):Dr (w.setCell ⟨b,12,none⟩ v) B b lv nv v T { r with x:={ r.x with ifs:=l } }:=
 ⟨heap_setCell_same w b 12 _ _ _ h.blk,h.low,h.tk.below ((Below.refl B w).setCell (p:=⟨b,12,none⟩) h.low _),row_store h.nm h.blk (by decide) _ _,row_store hn h.blk (by decide) _ _⟩
theorem gb_below {w w':World} (h:Below w.heap.size w w') (row:Option Nat):w.grownBy w' row:=⟨h.os,h.tape,h.output,h.size,fun k hk _=>h.block k hk⟩
theorem gb_trans {w w1 w2:World} {row:Option Nat} (h:w.grownBy w1 row) (k:w1.grownBy w2 row):w.grownBy w2 row:=
 ⟨k.os.trans h.os,k.tape.trans h.tape,k.output.trans h.output,Nat.le_trans h.size k.size,fun q hq hne=>(k.block q (Nat.lt_of_lt_of_le hq h.size) hne).trans (h.block q hq hne)⟩
theorem gb_set {w w1:World} {b:Nat} (h:w.grownBy w1 (some b)) (j:Nat) (v:Value):w.grownBy (w1.setCell ⟨b,j,none⟩ v) (some b):=by
 have hb:Below (w1.heap.size) w1 w1:=Below.refl _ _
 refine⟨h.os,h.tape,h.output,?_,fun q hq hne=>?_⟩
 · rw[World.size_setCell];exact h.size
 · rw[Below.heap_setCell _ _ _ _ (by show q≠b;exact fun e=>hne (by rw[e]))]
   exact h.block q hq hne
structure DT (w w':World) (B b:Nat) (lv nv iv:Value) (T:List Tk) (r:RS):Prop where
 rd:Dr w' B b lv nv iv T r
 gb:w.grownBy w' (some b)
theorem DT.of_rd {w:World} {B b:Nat} {lv nv iv:Value} {T:List Tk} {r:RS} (h:Dr w B b lv nv iv T r):DT w w B b lv nv iv T r:=⟨h,gb_below (Below.refl _ _) _⟩
theorem DT.size {w w':World} {B b:Nat} {lv nv iv:Value} {T:List Tk} {r:RS} (h:DT w w' B b lv nv iv T r) (hB:B≤w.heap.size):B≤w'.heap.size:=Nat.le_trans hB h.gb.size
theorem DT.then {w w1 w':World} {B b:Nat} {lv nv iv:Value} {T:List Tk} {r:RS} (h:DT w w1 B b lv nv iv T r) (hb:Below w1.heap.size w1 w') (hB:B≤w.heap.size):DT w w' B b lv nv iv T r:=
 ⟨h.rd.keep hb (h.size hB),gb_trans h.gb (gb_below hb _)⟩
theorem DT.alloc {w w1:World} {B b:Nat} {lv nv iv:Value} {T:List Tk} {r:RS} (h:DT w w1 B b lv nv iv T r) (hB:B≤w.heap.size) (ob:Obj):DT w (w1.alloc ob) B b lv nv iv T r:=
 h.then ((Below.refl _ _).alloc (Nat.le_refl _) ob) hB
theorem DT.drew {w w1:World} {B b:Nat} {lv nv iv:Value} {T:List Tk} {r:RS} (h:DT w w1 B b lv nv iv T r):DT w w1.drew B b lv nv iv T r:=⟨h.rd.drew,⟨h.gb.os,h.gb.tape,h.gb.output,h.gb.size,h.gb.block⟩⟩
theorem DT.trans {w w1 w2:World} {B b:Nat} {lv nv iv nv2 iv2:Value} {T:List Tk} {r r2:RS} (h:DT w w1 B b lv nv iv T r) (k:DT w1 w2 B b lv nv2 iv2 T r2):DT w w2 B b lv nv2 iv2 T r2:=⟨k.rd,gb_trans h.gb k.gb⟩
theorem DT.setI {w w1:World} {B b:Nat} {lv nv iv:Value} {T:List Tk} {r:RS} (h:DT w w1 B b lv nv iv T r) (j:Int):DT w (w1.setCell ⟨b,1,none⟩ (.int .i64 j)) B b lv nv iv T ({ r with i:=j }):=⟨h.rd.setI j,gb_set h.gb _ _⟩
theorem DT.setKind {w w1:World} {B b:Nat} {lv nv iv:Value} {T:List Tk} {r:RS} (h:DT w w1 B b lv nv iv T r) (j:Int):DT w (w1.setCell ⟨b,2,none⟩ (.int .i64 j)) B b lv nv iv T ({ r with x:={ r.x with kind:=j } }):=⟨h.rd.setKind j,gb_set h.gb _ _⟩
theorem DT.setName {w w1:World} {B b:Nat} {lv nv iv:Value} {T:List Tk} {r:RS} (h:DT w w1 B b lv nv iv T r) (s:ByteArray):DT w (w1.setCell ⟨b,3,none⟩ (.string s)) B b lv nv iv T (setName s r):=⟨h.rd.setName s,gb_set h.gb _ _⟩
theorem DT.setLine {w w1:World} {B b:Nat} {lv nv iv:Value} {T:List Tk} {r:RS} (h:DT w w1 B b lv nv iv T r) (j:Int):DT w (w1.setCell ⟨b,4,none⟩ (.int .i64 j)) B b lv nv iv T ({ r with x:={ r.x with line:=j } }):=⟨h.rd.setLine j,gb_set h.gb _ _⟩
theorem DT.setCol {w w1:World} {B b:Nat} {lv nv iv:Value} {T:List Tk} {r:RS} (h:DT w w1 B b lv nv iv T r) (j:Int):DT w (w1.setCell ⟨b,5,none⟩ (.int .i64 j)) B b lv nv iv T ({ r with x:={ r.x with col:=j } }):=⟨h.rd.setCol j,gb_set h.gb _ _⟩
theorem DT.setInit {w w1:World} {B b:Nat} {lv nv iv:Value} {T:List Tk} {r:RS} (h:DT w w1 B b lv nv iv T r) (j:Int):DT w (w1.setCell ⟨b,6,none⟩ (.int .i64 j)) B b lv nv iv T (setInit j r):=⟨h.rd.setInit j,gb_set h.gb _ _⟩
theorem DT.setRole {w w1:World} {B b:Nat} {lv nv iv:Value} {T:List Tk} {r:RS} (h:DT w w1 B b lv nv iv T r) (s:ByteArray):DT w (w1.setCell ⟨b,8,none⟩ (.string s)) B b lv nv iv T (setRole s r):=⟨h.rd.setRole s,gb_set h.gb _ _⟩
theorem DT.setStage {w w1:World} {B b:Nat} {lv nv iv:Value} {T:List Tk} {r:RS} (h:DT w w1 B b lv nv iv T r) (s:ByteArray):DT w (w1.setCell ⟨b,9,none⟩ (.string s)) B b lv nv iv T (setStage s r):=⟨h.rd.setStage s,gb_set h.gb _ _⟩
theorem DT.setEvent {w w1:World} {B b:Nat} {lv nv iv:Value} {T:List Tk} {r:RS} (h:DT w w1 B b lv nv iv T r) (s:ByteArray):DT w (w1.setCell ⟨b,10,none⟩ (.string s)) B b lv nv iv T (setEvent s r):=⟨h.rd.setEvent s,gb_set h.gb _ _⟩
theorem DT.setTimes {w w1:World} {B b:Nat} {lv nv iv:Value} {T:List Tk} {r:RS} (h:DT w w1 B b lv nv iv T r) (j:Int):DT w (w1.setCell ⟨b,11,none⟩ (.int .i64 j)) B b lv nv iv T (setTimes j r):=⟨h.rd.setTimes j,gb_set h.gb _ _⟩
theorem DT.setFinal {w w1:World} {B b:Nat} {lv nv iv:Value} {T:List Tk} {r:RS} (h:DT w w1 B b lv nv iv T r) (f:Bool):DT w (w1.setCell ⟨b,13,none⟩ (.bool f)) B b lv nv iv T (setFinal f r):=⟨h.rd.setFinal f,gb_set h.gb _ _⟩
theorem DT.setEr {w w1:World} {B b:Nat} {lv nv iv:Value} {T:List Tk} {r:RS} (h:DT w w1 B b lv nv iv T r) (j:Int):DT w (w1.setCell ⟨b,14,none⟩ (.int .i64 j)) B b lv nv iv T ({ r with er:=j }):=⟨h.rd.setEr j,gb_set h.gb _ _⟩
theorem DT.setELine {w w1:World} {B b:Nat} {lv nv iv:Value} {T:List Tk} {r:RS} (h:DT w w1 B b lv nv iv T r) (j:Int):DT w (w1.setCell ⟨b,15,none⟩ (.int .i64 j)) B b lv nv iv T ({ r with line:=j }):=⟨h.rd.setELine j,gb_set h.gb _ _⟩
theorem DT.setECol {w w1:World} {B b:Nat} {lv nv iv:Value} {T:List Tk} {r:RS} (h:DT w w1 B b lv nv iv T r) (j:Int):DT w (w1.setCell ⟨b,16,none⟩ (.int .i64 j)) B b lv nv iv T ({ r with col:=j }):=⟨h.rd.setECol j,gb_set h.gb _ _⟩
theorem dnow_any {w:World} {B b:Nat} {lv nv iv:Value} {T:List Tk} {r:RS} (h:Dr w B b lv nv iv T r) :
 Calls Tryz.prog 17 #[.pointer (some ⟨b,0,none⟩)] w fun e w'=>e=.returned (tokV (tkAt T r.i))∧Below w.heap.size w w':=by
 obtain⟨c0,c1,_,_,_,_,_,_,_,_,_,_,_,_,_,_,_⟩:=h.facts
 obtain⟨i,hi⟩:∃ i,r.i=i:=⟨_,rfl⟩
 rw[hi] at c1 ⊢
 clear hi
 obtain⟨ad,cap,hv,hl,_⟩:=h.tk
 have hbl:=h.lt
 by_cases hneg:i < 0
 · have HN:Hid (tkAt T i=noTk):=by unfold Hid tkAt;rw[if_pos hneg]
   have hnd:decide (i < 0)=true:=decide_eq_true hneg
   rw[hv] at c0
   clear h hv hneg
   go_enter Tryz.func17,Tryz.ntmps17
   go_wp2
   go_quiet (fail)
   go_wp2
   exact bodyPost_ret (v:=.agg #[.int .i64 5,.string ⟨#[]⟩,.int .i64 0,.int .i64 0,.int .i64 0]) (by simp[results,Tryz.results17,go_sem]) rfl ⟨by rw[HN.out];rfl,below_tok (below_drewN ((Below.refl _ _).alloc (Nat.le_refl _) _) _) (Nat.le_refl _) _ _ _ _ _⟩
 · obtain⟨k,rfl⟩:=Int.eq_ofNat_of_zero_le (Int.not_lt.1 hneg)
   have hnd:decide ((k:Int) < 0)=false:=decide_eq_false (by omega)
   clear hneg
   by_cases hlt:k < T.length
   · obtain⟨x,hx⟩:∃ x,T[k]?=some x:=⟨_,List.getElem?_eq_getElem hlt⟩
     have HN:=Lh (tkAt_some hx)
     obtain⟨g,off,cap2,hv2,hgB,hgw,x0,x1,x2,x3,x4⟩:=h.tk.at hx
     rw[hv2] at c0
     have hkz:decide ((T.length:Int)≤(k:Int))=false:=decide_eq_false (by omega)
     have hk2: (k:Int) < (T.length:Int):=by omega
     clear h hv hv2 hx
     go_enter Tryz.func17,Tryz.ntmps17
     go_wp2
     go_quiet (fail)
     go_wp2
     have f0:=cell_tok (.int .i64 x.kind) (.string x.text) (.int .i64 x.num) (.int .i64 x.line) (.int .i64 x.col) (k:=w.heap.size) (Nat.ne_of_lt hbl) (old_cell oB11 (nq+1) hbl c0)
     have f1:=cell_tok (.int .i64 x.kind) (.string x.text) (.int .i64 x.num) (.int .i64 x.line) (.int .i64 x.col) (k:=w.heap.size) (Nat.ne_of_lt hbl) (old_cell oB11 (nq+1) hbl c1)
     have f2:=cell_tok (.int .i64 x.kind) (.string x.text) (.int .i64 x.num) (.int .i64 x.line) (.int .i64 x.col) (k:=w.heap.size) (Nat.ne_of_lt hgw) (old_cell oB11 (nq+1) hgw x0)
     have f3:=cell_tok (.int .i64 x.kind) (.string x.text) (.int .i64 x.num) (.int .i64 x.line) (.int .i64 x.col) (k:=w.heap.size) (Nat.ne_of_lt hgw) (old_cell oB11 (nq+1) hgw x1)
     have f4:=cell_tok (.int .i64 x.kind) (.string x.text) (.int .i64 x.num) (.int .i64 x.line) (.int .i64 x.col) (k:=w.heap.size) (Nat.ne_of_lt hgw) (old_cell oB11 (nq+1) hgw x2)
     have f5:=cell_tok (.int .i64 x.kind) (.string x.text) (.int .i64 x.num) (.int .i64 x.line) (.int .i64 x.col) (k:=w.heap.size) (Nat.ne_of_lt hgw) (old_cell oB11 (nq+1) hgw x3)
     have f6:=cell_tok (.int .i64 x.kind) (.string x.text) (.int .i64 x.num) (.int .i64 x.line) (.int .i64 x.col) (k:=w.heap.size) (Nat.ne_of_lt hgw) (old_cell oB11 (nq+1) hgw x4)
     go_region_held3 (fun w'=>w'.cell? ⟨b,0,none⟩ = some (.slice (some ⟨g,off,none⟩) T.length cap2)∧w'.cell? ⟨b,1,none⟩ = some (.int .i64 k)∧w'.cell? ⟨g,off+k * 5,none⟩ = some (.int .i64 x.kind)∧w'.cell? ⟨g,off+k * 5+1,none⟩ = some (.string x.text)∧w'.cell? ⟨g,off+k * 5+2,none⟩ = some (.int .i64 x.num)∧w'.cell? ⟨g,off+k * 5+3,none⟩ = some (.int .i64 x.line)∧w'.cell? ⟨g,off+k * 5+4,none⟩ = some (.int .i64 x.col))
      (first|go_keep|exact⟨f0,f1,f2,f3,f4,f5,f6⟩ | (refine⟨?_,?_,?_,?_,?_,?_,?_⟩ <;> assumption))
      (first|fail)
     go_wp2
     exact bodyPost_ret (v:=tokV x) (by simp[results,Tryz.results17,go_sem,tokV]) rfl ⟨by rw[HN.out],below_tok (below_drewN ((Below.refl _ _).alloc (Nat.le_refl _) _) _) (Nat.le_refl _) _ _ _ _ _⟩
   · have HN:=Lh (tkAt_far (T:=T) (k:=k) (by omega))
     rw[hv] at c0
     have hkz: (T.length:Int)≤(k:Int):=by omega
     have hkn:T.length≤k:=by omega
     clear h hv hlt
     go_enter Tryz.func17,Tryz.ntmps17
     go_wp2
     go_quiet (fail)
     go_wp2
     exact bodyPost_ret (v:=.agg #[.int .i64 5,.string ⟨#[]⟩,.int .i64 0,.int .i64 0,.int .i64 0]) (by simp[results,Tryz.results17,go_sem]) rfl ⟨by rw[HN.out];rfl,below_tok (below_drewN ((Below.refl _ _).alloc (Nat.le_refl _) _) _) (Nat.le_refl _) _ _ _ _ _⟩
theorem dwell_any {w:World} {B b:Nat} {lv nv iv:Value} {T:List Tk} {r:RS} (h:Dr w B b lv nv iv T r) :
 Calls Tryz.prog 21 #[.pointer (some ⟨b,0,none⟩)] w fun e w'=>e=.returned (.bool (decide (r.er=0)))∧w'=w:=by
 obtain⟨_,_,_,_,_,_,_,_,_,_,_,_,_,_,c14,_,_⟩:=h.facts
 obtain⟨er,her⟩:∃ e,r.er=e:=⟨_,rfl⟩
 rw[her] at c14 ⊢
 clear h her
 by_cases h0:er=0
 · have hb: (er == 0)=true:=by rw[beq_iff_eq];exact h0
   have HD:=Lh (decide_eq_true h0)
   clear h0
   go_enter Tryz.func21,Tryz.ntmps21
   go_wp2
   go_ret
   exact⟨ret_bool HD.out.symm,rfl⟩
 · have hb: (er == 0)=false:=beq_eq_false_iff_ne.2 h0
   have HD:=Lh (decide_eq_false h0)
   clear h0
   go_enter Tryz.func21,Tryz.ntmps21
   go_wp2
   go_ret
   exact⟨ret_bool HD.out.symm,rfl⟩
theorem dfail_any {w:World} {B b:Nat} {lv nv iv:Value} {T:List Tk} {r:RS} (h:Dr w B b lv nv iv T r) (hB:B≤w.heap.size) (e:Int) :
 Calls Tryz.prog 19 #[.pointer (some ⟨b,0,none⟩),.int .i64 e] w fun en w'=>en=.returned (.tuple #[])∧DT w w' B b lv nv iv T (failD T e r):=by
 obtain⟨x,hx⟩:∃ x,tkAt T r.i=x:=⟨_,rfl⟩
 have HX:=Lh hx
 have HR:=Lh h
 obtain⟨_,_,_,_,_,_,_,_,_,_,_,_,_,_,c14,_,_⟩:=h.facts
 by_cases h0:r.er=0
 · have HE:Hid (failD T e r= { r with er:=e,line:=x.line,col:=x.col }):=by unfold Hid failD;rw[if_pos h0,hx]
   rw[h0] at c14
   clear h hx h0
   go_enter Tryz.func19,Tryz.ntmps19
   go_wp2_with fail
   refine(dnow_any HR.out).mono ?_
   rintro en w1 ⟨rfl,hb1⟩
   rw[HX.out]
   unfold tokV
   have HC:=Lh ((DT.of_rd HR.out).then hb1 hB)
   clear hb1
   obtain⟨_,_,_,_,_,_,_,_,_,_,_,_,_,_,d14,d15,d16⟩:=HC.out.rd.facts
   obtain⟨_,_,_,_,_,_,_,_,_,_,_,_,_,_,f14,f15,f16⟩:=HC.out.rd.free
   have HM:=Lh (((HC.out.setEr e).setELine x.line).setECol x.col)
   have hfd:∀ w:World,(Instr.field 48 (.agg #[.int .i64 x.kind,.string x.text,.int .i64 x.num,.int .i64 x.line,.int .i64 x.col]) 3).run Tryz.prog w=.ok (.agg #[.int .i64 x.line,.int .i64 x.col]) w:=fun _=>by kernel_rfl
   go_wp2
   first
   | go_end0
   | ((try simp only[Exit.inBlock,Exit.then]);refine bodyPost_ret (results_none rfl _ _ _) rfl ?_)
   exact⟨rfl,by rw[HE.out];exact HM.out⟩
 · have HE:Hid (failD T e r=r):=by unfold Hid failD;rw[if_neg h0]
   have hn: (r.er == 0)=false:=beq_eq_false_iff_ne.2 h0
   clear h hx h0
   go_enter Tryz.func19,Tryz.ntmps19
   go_wp2
   first
   | go_end0
   | ((try simp only[Exit.inBlock,Exit.then]);refine bodyPost_ret (results_none rfl _ _ _) rfl ?_)
   exact⟨rfl,by rw[HE.out];exact DT.of_rd HR.out⟩
theorem dmay_any {w:World} {B b:Nat} {lv nv iv:Value} {T:List Tk} {r:RS} (h:Dr w B b lv nv iv T r) (hB:B≤w.heap.size) (k:Int) (s:ByteArray) (hlo:-9223372036854775808≤r.i) (hhi:r.i≤2000000) :
 Calls Tryz.prog 45 #[.pointer (some ⟨b,0,none⟩),.int .i64 k,.string s] w fun en w'=>en=.returned (.bool (mayB T k s r))∧DT w w' B b lv nv iv T (mayD T k s r):=by
 obtain⟨x,hx⟩:∃ x,tkAt T r.i=x:=⟨_,rfl⟩
 have HX:=Lh hx
 have HR:=Lh h
 have HI:Hid (isTk T r.i k s= (decide (x.kind=k) && decide (x.text=s))):=by unfold Hid isTk;rw[hx]
 clear h hx
 go_enter Tryz.func45,Tryz.ntmps45
 go_wp2_with fail
 refine(dnow_any HR.out).mono ?_
 rintro en w1 ⟨rfl,hb1⟩
 rw[HX.out]
 unfold tokV
 have HC:=Lh (((DT.of_rd HR.out).then hb1 hB).alloc hB (tO x))
 have HT:=Lh (show TkB (w1.alloc (tO x)) w1.heap.size x from heap_alloc_new w1 _)
 have hsz1:=hb1.size
 have hbl0:=HR.out.lt
 clear hb1
 obtain⟨t0,t1,t2,t3,t4⟩:=HT.out.facts
 go_wp2_with fail
 refine(dwell_any HC.out.rd).mono ?_
 rintro en w2 ⟨rfl,hw⟩
 rw[hw]
 clear hw
 by_cases h0:r.er=0
 · have HW:=Lh (decide_eq_true h0)
   rw[HW.out]
   by_cases hk:x.kind=k
   · have hkb: (x.kind == k)=true:=by rw[beq_iff_eq];exact hk
     have hkb2: (x.kind !=k)=false:=by simp[bne,hkb]
     by_cases ht:x.text=s
     · have htb: (x.text.toList == s.toList)=true:=by rw[bytes_beq];exact decide_eq_true ht
       have htb2: (x.text.toList !=s.toList)=false:=by simp[bne,htb]
       have HF:Hid (mayB T k s r=true):=by unfold Hid mayB;rw[HI.out,decide_eq_true hk,decide_eq_true ht,HW.out];rfl
       have HF2:Hid (mayD T k s r= { r with i:=r.i+1 }):=by unfold Hid mayD;rw[if_pos HF.out]
       clear hk ht h0
       obtain⟨_,c1,_,_,_,_,_,_,_,_,_,_,_,_,_,_,_⟩:=HC.out.rd.facts
       obtain⟨_,f1,_,_,_,_,_,_,_,_,_,_,_,_,_,_,_⟩:=HC.out.rd.free
       have HM:=Lh (HC.out.setI (r.i+1))
       go_wp2
       go_ret
       exact⟨ret_bool HF.out.symm,by rw[HF2.out];exact HM.out⟩
     · have htb: (x.text.toList == s.toList)=false:=by rw[bytes_beq];exact decide_eq_false ht
       have htb2: (x.text.toList !=s.toList)=true:=by simp[bne,htb]
       have HF:Hid (mayB T k s r=false):=by unfold Hid mayB;rw[HI.out,decide_eq_false ht,Bool.and_false,Bool.and_false]
       have HF2:Hid (mayD T k s r=r):=by unfold Hid mayD;rw[HF.out];rfl
       clear hk ht h0
       go_wp2
       go_ret
       exact⟨ret_bool HF.out.symm,by rw[HF2.out];exact HC.out⟩
   · have hkb: (x.kind == k)=false:=beq_eq_false_iff_ne.2 hk
     have hkb2: (x.kind !=k)=true:=by simp[bne,hkb]
     have HF:Hid (mayB T k s r=false):=by unfold Hid mayB;rw[HI.out,decide_eq_false hk,Bool.false_and,Bool.and_false]
     have HF2:Hid (mayD T k s r=r):=by unfold Hid mayD;rw[HF.out];rfl
     clear hk h0
     go_wp2
     go_ret
     exact⟨ret_bool HF.out.symm,by rw[HF2.out];exact HC.out⟩
 · have HW:=Lh (decide_eq_false h0)
   rw[HW.out]
   have HF:Hid (mayB T k s r=false):=by unfold Hid mayB;rw[HW.out,Bool.false_and]
   have HF2:Hid (mayD T k s r=r):=by unfold Hid mayD;rw[HF.out];rfl
   clear h0
   go_wp2
   go_ret
   exact⟨ret_bool HF.out.symm,by rw[HF2.out];exact HC.out⟩
theorem dneed_any {w:World} {B b:Nat} {lv nv iv:Value} {T:List Tk} {r:RS} (h:Dr w B b lv nv iv T r) (hB:B≤w.heap.size) (k:Int) (s:ByteArray) (hlo:-9223372036854775808≤r.i) (hhi:r.i≤2000000) :
 Calls Tryz.prog 20 #[.pointer (some ⟨b,0,none⟩),.int .i64 k,.string s] w fun en w'=>en=.returned (.tuple #[])∧DT w w' B b lv nv iv T (needD T k s r):=by
 have HC:=Lh (dmay_any h hB k s hlo hhi)
 obtain⟨ok,hok⟩:∃ q,mayB T k s r=q:=⟨_,rfl⟩
 have HK:=Lh hok
 clear h hok
 go_enter Tryz.func20,Tryz.ntmps20
 go_wp2_with fail
 refine HC.out.mono ?_
 rw[HK.out]
 rintro en w1 ⟨rfl,hc⟩
 have H1:=Lh hc
 clear hc
 cases ok
 · have HE:Hid (mayD T k s r=r∧needD T k s r=failD T 4 r):=by unfold Hid mayD needD;rw[HK.out];exact⟨rfl,rfl⟩
   have H2:=Lh (show DT w w1 B b lv nv iv T r by rw[←HE.out.1];exact H1.out)
   clear H1
   go_wp2_with fail
   refine(dfail_any H2.out.rd (H2.out.size hB) 4).mono ?_
   rintro en w2 ⟨rfl,hc2⟩
   have H3:=Lh (H2.out.trans hc2)
   clear hc2
   go_wp2
   first
   | go_end0
   | ((try simp only[Exit.inBlock,Exit.then]);refine bodyPost_ret (results_none rfl _ _ _) rfl ?_)
   exact⟨rfl,by rw[HE.out.2];exact H3.out⟩
 · have HE:Hid (needD T k s r=mayD T k s r):=by unfold Hid needD mayD;rw[HK.out];rfl
   go_wp2
   first
   | go_end0
   | ((try simp only[Exit.inBlock,Exit.then]);refine bodyPost_ret (results_none rfl _ _ _) rfl ?_)
   exact⟨rfl,by rw[HE.out];exact H1.out⟩
theorem dname_any {w:World} {B b:Nat} {lv nv iv:Value} {T:List Tk} {r:RS} (h:Dr w B b lv nv iv T r) (hB:B≤w.heap.size) (hlo:-9223372036854775808≤r.i) (hhi:r.i≤2000000) :
 Calls Tryz.prog 71 #[.pointer (some ⟨b,0,none⟩)] w fun en w'=>en=.returned (.string (nameV T r))∧DT w w' B b lv nv iv T (nameD T r):=by
 obtain⟨x,hx⟩:∃ x,tkAt T r.i=x:=⟨_,rfl⟩
 have HX:=Lh hx
 have HR:=Lh h
 clear h
 go_enter Tryz.func71,Tryz.ntmps71
 go_wp2_with fail
 refine(dnow_any HR.out).mono ?_
 rintro en w1 ⟨rfl,hb1⟩
 rw[HX.out]
 unfold tokV
 have HC:=Lh (((DT.of_rd HR.out).then hb1 hB).alloc hB (tO x))
 have HT:=Lh (show TkB (w1.alloc (tO x)) w1.heap.size x from heap_alloc_new w1 _)
 have hsz1:=hb1.size
 have hbl0:=HR.out.lt
 clear hb1
 obtain⟨t0,t1,t2,t3,t4⟩:=HT.out.facts
 by_cases hk:x.kind=1
 · have hkb: (x.kind == 1)=true:=by rw[beq_iff_eq];exact hk
   have hkb2: (x.kind !=1)=false:=by simp[bne,hkb]
   have HKK:=Lh hk
   clear hk
   go_wp2_with fail
   refine(dwell_any HC.out.rd).mono ?_
   rintro en w2 ⟨rfl,hw⟩
   rw[hw]
   clear hw
   by_cases h0:r.er=0
   · have HW:=Lh (decide_eq_true h0)
     rw[HW.out]
     have HKB:Hid (kindB T 1 r=true):=by unfold Hid kindB;rw[hx,decide_eq_true HKK.out,HW.out];rfl
     have HV:Hid (nameV T r=x.text∧takeD T 1 r= { r with i:=r.i+1 }):=by unfold Hid nameV takeD;rw[if_pos HKB.out,if_pos HKB.out,hx];exact⟨rfl,rfl⟩
     clear h0 hx
     obtain⟨_,c1,_,_,_,_,_,_,_,_,_,_,_,_,_,_,_⟩:=HC.out.rd.facts
     obtain⟨_,f1,_,_,_,_,_,_,_,_,_,_,_,_,_,_,_⟩:=HC.out.rd.free
     have hbl:=HC.out.rd.lt
     have HM:=Lh (HC.out.setI (r.i+1))
     have HT2:=Lh (HT.out.setOther (g:=b) (j:=1) (by omega) (.int .i64 (r.i+1)))
     obtain⟨s0,s1,s2,s3,s4⟩:=HT2.out.facts
     go_wp2
     go_ret
     exact⟨by rw[HV.out.1];first|done|rfl,by unfold nameD;rw[HV.out.2];exact HM.out⟩
   · have HW:=Lh (decide_eq_false h0)
     rw[HW.out]
     have HKB:Hid (kindB T 1 r=false):=by unfold Hid kindB;rw[HW.out,Bool.and_false]
     have HV:Hid (nameV T r= ⟨#[]⟩∧takeD T 1 r=r):=by unfold Hid nameV takeD;rw[HKB.out,hx];exact⟨rfl,by rw[if_neg (by decide),if_pos HKK.out]⟩
     clear h0 hx
     go_wp2
     go_ret
     exact⟨by rw[HV.out.1];first|done|rfl,by unfold nameD;rw[HV.out.2];exact HC.out⟩
 · have hkb: (x.kind == 1)=false:=beq_eq_false_iff_ne.2 hk
   have hkb2: (x.kind !=1)=true:=by simp[bne,hkb]
   have HKB:Hid (kindB T 1 r=false):=by unfold Hid kindB;rw[hx,decide_eq_false hk,Bool.false_and]
   have HV:Hid (nameV T r= ⟨#[]⟩∧takeD T 1 r=failD T 4 r):=by unfold Hid nameV takeD;rw[HKB.out,hx];exact⟨rfl,by rw[if_neg (by decide),if_neg hk]⟩
   have HNE:Hid ((failD T 4 r).er≠0):=by
    unfold Hid failD
    by_cases q:r.er=0
    · rw[if_pos q];simp
    · rw[if_neg q];exact q
   clear hk hx
   go_wp2_with fail
   refine(dfail_any HC.out.rd (HC.out.size hB) 4).mono ?_
   rintro en w2 ⟨rfl,hc2⟩
   have H3:=Lh (HC.out.trans hc2)
   clear hc2
   go_wp2_with fail
   refine(dwell_any H3.out.rd).mono ?_
   rintro en w3 ⟨rfl,hw⟩
   rw[hw,decide_eq_false HNE.out]
   clear hw
   go_wp2
   go_ret
   exact⟨by rw[HV.out.1];first|done|rfl,by unfold nameD;rw[HV.out.2];exact H3.out⟩
theorem dnum_any {w:World} {B b:Nat} {lv nv iv:Value} {T:List Tk} {r:RS} (h:Dr w B b lv nv iv T r) (hB:B≤w.heap.size) (hlo:-9223372036854775808≤r.i) (hhi:r.i≤2000000) :
 Calls Tryz.prog 72 #[.pointer (some ⟨b,0,none⟩)] w fun en w'=>en=.returned (.int .i64 (numW T r))∧DT w w' B b lv nv iv T (numD T r):=by
 obtain⟨x,hx⟩:∃ x,tkAt T r.i=x:=⟨_,rfl⟩
 have HX:=Lh hx
 have HR:=Lh h
 clear h
 go_enter Tryz.func72,Tryz.ntmps72
 go_wp2_with fail
 refine(dnow_any HR.out).mono ?_
 rintro en w1 ⟨rfl,hb1⟩
 rw[HX.out]
 unfold tokV
 have HC:=Lh (((DT.of_rd HR.out).then hb1 hB).alloc hB (tO x))
 have HT:=Lh (show TkB (w1.alloc (tO x)) w1.heap.size x from heap_alloc_new w1 _)
 have hsz1:=hb1.size
 have hbl0:=HR.out.lt
 clear hb1
 obtain⟨t0,t1,t2,t3,t4⟩:=HT.out.facts
 by_cases hk:x.kind=3
 · have hkb: (x.kind == 3)=true:=by rw[beq_iff_eq];exact hk
   have hkb2: (x.kind !=3)=false:=by simp[bne,hkb]
   have HKK:=Lh hk
   clear hk
   go_wp2_with fail
   refine(dwell_any HC.out.rd).mono ?_
   rintro en w2 ⟨rfl,hw⟩
   rw[hw]
   clear hw
   by_cases h0:r.er=0
   · have HW:=Lh (decide_eq_true h0)
     rw[HW.out]
     have HKB:Hid (kindB T 3 r=true):=by unfold Hid kindB;rw[hx,decide_eq_true HKK.out,HW.out];rfl
     have HV:Hid (numW T r=x.num∧takeD T 3 r= { r with i:=r.i+1 }):=by unfold Hid numW takeD;rw[if_pos HKB.out,if_pos HKB.out,hx];exact⟨rfl,rfl⟩
     clear h0 hx
     obtain⟨_,c1,_,_,_,_,_,_,_,_,_,_,_,_,_,_,_⟩:=HC.out.rd.facts
     obtain⟨_,f1,_,_,_,_,_,_,_,_,_,_,_,_,_,_,_⟩:=HC.out.rd.free
     have hbl:=HC.out.rd.lt
     have HM:=Lh (HC.out.setI (r.i+1))
     have HT2:=Lh (HT.out.setOther (g:=b) (j:=1) (by omega) (.int .i64 (r.i+1)))
     obtain⟨s0,s1,s2,s3,s4⟩:=HT2.out.facts
     go_wp2
     go_ret
     exact⟨by rw[HV.out.1];first|done|rfl,by unfold numD;rw[HV.out.2];exact HM.out⟩
   · have HW:=Lh (decide_eq_false h0)
     rw[HW.out]
     have HKB:Hid (kindB T 3 r=false):=by unfold Hid kindB;rw[HW.out,Bool.and_false]
     have HV:Hid (numW T r=0∧takeD T 3 r=r):=by unfold Hid numW takeD;rw[HKB.out,hx];exact⟨rfl,by rw[if_neg (by decide),if_pos HKK.out]⟩
     clear h0 hx
     go_wp2
     go_ret
     exact⟨by rw[HV.out.1];first|done|rfl,by unfold numD;rw[HV.out.2];exact HC.out⟩
 · have hkb: (x.kind == 3)=false:=beq_eq_false_iff_ne.2 hk
   have hkb2: (x.kind !=3)=true:=by simp[bne,hkb]
   have HKB:Hid (kindB T 3 r=false):=by unfold Hid kindB;rw[hx,decide_eq_false hk,Bool.false_and]
   have HV:Hid (numW T r=0∧takeD T 3 r=failD T 4 r):=by unfold Hid numW takeD;rw[HKB.out,hx];exact⟨rfl,by rw[if_neg (by decide),if_neg hk]⟩
   have HNE:Hid ((failD T 4 r).er≠0):=by
    unfold Hid failD
    by_cases q:r.er=0
    · rw[if_pos q];simp
    · rw[if_neg q];exact q
   clear hk hx
   go_wp2_with fail
   refine(dfail_any HC.out.rd (HC.out.size hB) 4).mono ?_
   rintro en w2 ⟨rfl,hc2⟩
   have H3:=Lh (HC.out.trans hc2)
   clear hc2
   go_wp2_with fail
   refine(dwell_any H3.out.rd).mono ?_
   rintro en w3 ⟨rfl,hw⟩
   rw[hw,decide_eq_false HNE.out]
   clear hw
   go_wp2
   go_ret
   exact⟨by rw[HV.out.1];first|done|rfl,by unfold numD;rw[HV.out.2];exact H3.out⟩
theorem bndD {T:List Tk} {r:RS} (h:InD T r) (hT:T.length≤1000000):-9223372036854775808≤r.i∧r.i≤2000000:=by
 unfold InD at h;omega
theorem dattr_any {w:World} {B b:Nat} {lv nv iv:Value} {T:List Tk} {r:RS} (h:Dr w B b lv nv iv T r) (hB:B≤w.heap.size) (hi:InD T r) :
 Calls Tryz.prog 37 #[.pointer (some ⟨b,0,none⟩)] w fun en w'=>en=.returned (.tuple #[])∧DT w w' B b lv nv iv T (attrD T r):=by
 have hTl:T.length≤1000000:=by obtain⟨_,_,_,hl,_⟩:=h.tk;exact hl
 have HC0:=Lh (DT.of_rd h)
 have HI0:=Lh hi
 clear h hi
 go_enter Tryz.func37,Tryz.ntmps37
 obtain⟨r1,hr1⟩:∃ q,nameD T r=q:=⟨_,rfl⟩
 have HN1:=Lh hr1
 have HI1:=Lh (show InD T r1 by rw[←hr1];exact HI0.out.name)
 clear hr1
 obtain⟨s1,hs1⟩:∃ q,nameV T r=q:=⟨_,rfl⟩
 have HS1:=Lh hs1
 clear hs1
 go_wp2_with fail
 refine(dname_any HC0.out.rd (HC0.out.size hB) (bndD HI0.out hTl).1 (bndD HI0.out hTl).2).mono ?_
 rw[HS1.out,HN1.out]
 rintro en w1 ⟨rfl,hc⟩
 have HC1:=Lh (HC0.out.trans hc)
 clear hc
 obtain⟨_,_,_,c3,_,_,_,_,_,_,_,_,_,_,_,_,_⟩:=HC1.out.rd.facts
 obtain⟨_,_,_,f3,_,_,_,_,_,_,_,_,_,_,_,_,_⟩:=HC1.out.rd.free
 have HD1:=Lh (HC1.out.setName s1)
 have HJ1:=Lh (show InD T (setName s1 r1) from HI1.out)
 obtain⟨r2,hr2⟩:∃ q,needD T 4 sEq (setName s1 r1)=q:=⟨_,rfl⟩
 have HN2:=Lh hr2
 have HI2:=Lh (show InD T r2 by rw[←hr2];exact HJ1.out.need 4 sEq (by decide))
 clear hr2
 go_wp2_with fail
 refine(dneed_any HD1.out.rd (HD1.out.size hB) 4 sEq (bndD HJ1.out hTl).1 (bndD HJ1.out hTl).2).mono ?_
 rw[HN2.out]
 rintro en w2 ⟨rfl,hc⟩
 have HC2:=Lh (HD1.out.trans hc)
 clear hc
 obtain⟨r3,hr3⟩:∃ q,numD T r2=q:=⟨_,rfl⟩
 have HN3:=Lh hr3
 have HI3:=Lh (show InD T r3 by rw[←hr3];exact HI2.out.num)
 clear hr3
 obtain⟨s3,hs3⟩:∃ q,numW T r2=q:=⟨_,rfl⟩
 have HS3:=Lh hs3
 clear hs3
 go_wp2_with fail
 refine(dnum_any HC2.out.rd (HC2.out.size hB) (bndD HI2.out hTl).1 (bndD HI2.out hTl).2).mono ?_
 rw[HS3.out,HN3.out]
 rintro en w3 ⟨rfl,hc⟩
 have HC3:=Lh (HC2.out.trans hc)
 clear hc
 obtain⟨_,_,_,_,_,_,c6,_,_,_,_,_,_,_,_,_,_⟩:=HC3.out.rd.facts
 obtain⟨_,_,_,_,_,_,f6,_,_,_,_,_,_,_,_,_,_⟩:=HC3.out.rd.free
 have HD3:=Lh (HC3.out.setInit s3)
 have HJ3:=Lh (show InD T (setInit s3 r3) from HI3.out)
 go_wp2
 first
 | go_end0
 | ((try simp only[Exit.inBlock,Exit.then]);refine bodyPost_ret (results_none rfl _ _ _) rfl ?_)
 exact⟨rfl,by
  have e:attrD T r= (setInit s3 r3):=by simp only[attrD,HN1.out,HS1.out,HN2.out,HN3.out,HS3.out]
  rw[e];exact HD3.out⟩
theorem duser_any {w:World} {B b:Nat} {lv nv iv:Value} {T:List Tk} {r:RS} (h:Dr w B b lv nv iv T r) (hB:B≤w.heap.size) (hi:InD T r) :
 Calls Tryz.prog 38 #[.pointer (some ⟨b,0,none⟩)] w fun en w'=>en=.returned (.tuple #[])∧DT w w' B b lv nv iv T (userD T r):=by
 have hTl:T.length≤1000000:=by obtain⟨_,_,_,hl,_⟩:=h.tk;exact hl
 have HC0:=Lh (DT.of_rd h)
 have HI0:=Lh hi
 clear h hi
 go_enter Tryz.func38,Tryz.ntmps38
 obtain⟨r1,hr1⟩:∃ q,nameD T r=q:=⟨_,rfl⟩
 have HN1:=Lh hr1
 have HI1:=Lh (show InD T r1 by rw[←hr1];exact HI0.out.name)
 clear hr1
 obtain⟨s1,hs1⟩:∃ q,nameV T r=q:=⟨_,rfl⟩
 have HS1:=Lh hs1
 clear hs1
 go_wp2_with fail
 refine(dname_any HC0.out.rd (HC0.out.size hB) (bndD HI0.out hTl).1 (bndD HI0.out hTl).2).mono ?_
 rw[HS1.out,HN1.out]
 rintro en w1 ⟨rfl,hc⟩
 have HC1:=Lh (HC0.out.trans hc)
 clear hc
 obtain⟨_,_,_,c3,_,_,_,_,_,_,_,_,_,_,_,_,_⟩:=HC1.out.rd.facts
 obtain⟨_,_,_,f3,_,_,_,_,_,_,_,_,_,_,_,_,_⟩:=HC1.out.rd.free
 have HD1:=Lh (HC1.out.setName s1)
 have HJ1:=Lh (show InD T (setName s1 r1) from HI1.out)
 go_wp2
 first
 | go_end0
 | ((try simp only[Exit.inBlock,Exit.then]);refine bodyPost_ret (results_none rfl _ _ _) rfl ?_)
 exact⟨rfl,by
  have e:userD T r= (setName s1 r1):=by simp only[userD,HN1.out,HS1.out]
  rw[e];exact HD1.out⟩
theorem dstage_any {w:World} {B b:Nat} {lv nv iv:Value} {T:List Tk} {r:RS} (h:Dr w B b lv nv iv T r) (hB:B≤w.heap.size) (hi:InD T r) :
 Calls Tryz.prog 40 #[.pointer (some ⟨b,0,none⟩)] w fun en w'=>en=.returned (.tuple #[])∧DT w w' B b lv nv iv T (stageD T r):=by
 have hTl:T.length≤1000000:=by obtain⟨_,_,_,hl,_⟩:=h.tk;exact hl
 have HC0:=Lh (DT.of_rd h)
 have HI0:=Lh hi
 clear h hi
 go_enter Tryz.func40,Tryz.ntmps40
 obtain⟨r1,hr1⟩:∃ q,nameD T r=q:=⟨_,rfl⟩
 have HN1:=Lh hr1
 have HI1:=Lh (show InD T r1 by rw[←hr1];exact HI0.out.name)
 clear hr1
 obtain⟨s1,hs1⟩:∃ q,nameV T r=q:=⟨_,rfl⟩
 have HS1:=Lh hs1
 clear hs1
 go_wp2_with fail
 refine(dname_any HC0.out.rd (HC0.out.size hB) (bndD HI0.out hTl).1 (bndD HI0.out hTl).2).mono ?_
 rw[HS1.out,HN1.out]
 rintro en w1 ⟨rfl,hc⟩
 have HC1:=Lh (HC0.out.trans hc)
 clear hc
 obtain⟨_,_,_,c3,_,_,_,_,_,_,_,_,_,_,_,_,_⟩:=HC1.out.rd.facts
 obtain⟨_,_,_,f3,_,_,_,_,_,_,_,_,_,_,_,_,_⟩:=HC1.out.rd.free
 have HD1:=Lh (HC1.out.setName s1)
 have HJ1:=Lh (show InD T (setName s1 r1) from HI1.out)
 obtain⟨r2,hr2⟩:∃ q,mayD T 2 wIn (setName s1 r1)=q:=⟨_,rfl⟩
 have HN2:=Lh hr2
 have HI2:=Lh (show InD T r2 by rw[←hr2];exact HJ1.out.may 2 wIn (by decide))
 clear hr2
 obtain⟨s2,hs2⟩:∃ q,mayB T 2 wIn (setName s1 r1)=q:=⟨_,rfl⟩
 have HS2:=Lh hs2
 clear hs2
 go_wp2_with fail
 refine(dmay_any HD1.out.rd (HD1.out.size hB) 2 wIn (bndD HJ1.out hTl).1 (bndD HJ1.out hTl).2).mono ?_
 rw[HS2.out,HN2.out]
 rintro en w2 ⟨rfl,hc⟩
 have HC2:=Lh (HD1.out.trans hc)
 clear hc
 cases s2
 · go_wp2
   first
   | go_end0
   | ((try simp only[Exit.inBlock,Exit.then]);refine bodyPost_ret (results_none rfl _ _ _) rfl ?_)
   exact⟨rfl,by
    have e:stageD T r=setName s1 r1:=by simp only[stageD,HS1.out,HN1.out,HS2.out];rfl
    have e2:r2=setName s1 r1:=by rw[←HN2.out];unfold mayD;rw[HS2.out];rfl
    rw[e,←e2];exact HC2.out⟩
 · obtain⟨r3,hr3⟩:∃ q,nameD T r2=q:=⟨_,rfl⟩
   have HN3:=Lh hr3
   have HI3:=Lh (show InD T r3 by rw[←hr3];exact HI2.out.name)
   clear hr3
   obtain⟨s3,hs3⟩:∃ q,nameV T r2=q:=⟨_,rfl⟩
   have HS3:=Lh hs3
   clear hs3
   go_wp2_with fail
   refine(dname_any HC2.out.rd (HC2.out.size hB) (bndD HI2.out hTl).1 (bndD HI2.out hTl).2).mono ?_
   rw[HS3.out,HN3.out]
   rintro en w3 ⟨rfl,hc⟩
   have HC3:=Lh (HC2.out.trans hc)
   clear hc
   obtain⟨_,_,_,_,_,_,_,_,_,c9,_,_,_,_,_,_,_⟩:=HC3.out.rd.facts
   obtain⟨_,_,_,_,_,_,_,_,_,f9,_,_,_,_,_,_,_⟩:=HC3.out.rd.free
   have HD3:=Lh (HC3.out.setStage s3)
   have HJ3:=Lh (show InD T (setStage s3 r3) from HI3.out)
   go_wp2
   first
   | go_end0
   | ((try simp only[Exit.inBlock,Exit.then]);refine bodyPost_ret (results_none rfl _ _ _) rfl ?_)
   exact⟨rfl,by
    have e:stageD T r= (setStage s3 r3):=by simp only[stageD,HS1.out,HN1.out,HS2.out,if_true,HN2.out,HS3.out,HN3.out]
    rw[e];exact HD3.out⟩
end Go.Proofs.YthlofmnmacpogaaGreatDoor
