/- A part of a proof of DeclReadsProof. -/
import Derived.Test.YthlofmnmacpogaaGreatDoorRt15
import Derived.Test.YthlofmnmacpogaaGreatDoorRt01
set_option maxRecDepth 100000
set_option maxHeartbeats 40000000
namespace Go.Proofs.YthlofmnmacpogaaGreatDoor
open Go.RowKit
theorem rctok_any {w:World} {B:Nat} {lv:Value} {T:List Tk} (h:TkIn w B lv T) (i:Int) :
 Calls Tryz.prog 91 #[lv,.int .i64 i] w fun e w'=>e=.returned (tokV (tkAt T i))∧Below w.heap.size w w':=by
 have h':=h
 obtain⟨ad,cap,hv,hl,_⟩:=h'
 have hc:i < 0∨(0≤i∧(T.length:Int)≤i)∨∃ k:Nat,i=k∧k < T.length:=by
  by_cases h0:i < 0
  · exact .inl h0
  · by_cases h1: (T.length:Int)≤i
    · exact .inr (.inl ⟨by omega,h1⟩)
    · exact .inr (.inr ⟨i.toNat,by omega,by omega⟩)
 rcases hc with h0| ⟨h0,h1⟩ | ⟨k,rfl,hk⟩
 · have HN:Hid (tkAt T i=noTk):=by unfold Hid tkAt;rw[if_pos h0]
   subst hv
   clear h
   go_enter Tryz.func91,Tryz.ntmps91
   go_wp2
   exact bodyPost_ret (v:=.agg #[.int .i64 5,.string ⟨#[]⟩,.int .i64 0,.int .i64 0,.int .i64 0]) (by simp[results,Tryz.results91,go_sem]) rfl ⟨by rw[HN.out];rfl,(Below.refl _ _).alloc (Nat.le_refl _) _⟩
 · have HN:Hid (tkAt T i=noTk):=by
    unfold Hid
    obtain⟨k,rfl⟩:=Int.eq_ofNat_of_zero_le h0
    exact tkAt_far (by omega)
   subst hv
   clear h
   go_enter Tryz.func91,Tryz.ntmps91
   go_wp2
   exact bodyPost_ret (v:=.agg #[.int .i64 5,.string ⟨#[]⟩,.int .i64 0,.int .i64 0,.int .i64 0]) (by simp[results,Tryz.results91,go_sem]) rfl ⟨by rw[HN.out];rfl,(Below.refl _ _).alloc (Nat.le_refl _) _⟩
 · obtain⟨x,hx⟩:∃ x,T[k]?=some x:=⟨_,List.getElem?_eq_getElem hk⟩
   have HN:=Lh (tkAt_some hx)
   obtain⟨g,off,cap2,hv2,hgB,hgw,x0,x1,x2,x3,x4⟩:=h.at hx
   rw[hv2]
   have hk2: (k:Int) < (T.length:Int):=by omega
   clear h hv hv2 hx
   go_enter Tryz.func91,Tryz.ntmps91
   go_wp2
   exact bodyPost_ret (v:=tokV x) (by simp[results,Tryz.results91,go_sem,tokV]) rfl ⟨by rw[HN.out],(Below.refl _ _).alloc (Nat.le_refl _) _⟩
theorem rcbad_any {w:World} {B:Nat} {lv:Value} {T:List Tk} (h:TkIn w B lv T) (hB:B≤w.heap.size) (i er:Int) :
 Calls Tryz.prog 141 #[lv,.int .i64 i,.int .i64 er] w fun e w'=>e=.returned (.agg #[.slice none 0 0,.int .i64 0,.int .i64 er,.int .i64 (tkAt T i).line,.int .i64 (tkAt T i).col])∧Below w.heap.size w w':=by
 obtain⟨x,hx⟩:∃ x,tkAt T i=x:=⟨_,rfl⟩
 have HX:=Lh hx
 rw[hx]
 have hal:=(Below.refl w.heap.size w).alloc (Nat.le_refl _) oB6
 have HT:=Lh (rctok_any (h.below (hal.mono hB)) i)
 have HB0:=Lh hal
 have hq: (w.alloc oB6).heap[w.heap.size]?=some (.cells #[.slice none 0 0,.int .i64 0,.int .i64 0,.int .i64 0,.int .i64 0] 117 (0,0)):=heap_alloc_new w _
 have HQ:=Lh hq
 have hfd:∀ w:World,(Instr.field 48 (.agg #[.int .i64 x.kind,.string x.text,.int .i64 x.num,.int .i64 x.line,.int .i64 x.col]) 3).run Tryz.prog w=.ok (.agg #[.int .i64 x.line,.int .i64 x.col]) w:=fun _=>by kernel_rfl
 clear h hal hq hx
 go_enter Tryz.func141,Tryz.ntmps141
 go_wp2_with fail
 refine HT.out.mono ?_
 rintro e w1 ⟨rfl,hb1⟩
 rw[HX.out]
 unfold tokV
 have hq1:w1.heap[w.heap.size]?=_:=(hb1.block _ (by simp)).trans HQ.out
 have c0:w1.cell? ⟨w.heap.size,0,none⟩ = some (.slice none 0 0):=by simp[World.cell?,hq1]
 have c1:w1.cell? ⟨w.heap.size,1,none⟩ = some (.int .i64 0):=by simp[World.cell?,hq1]
 have c2:w1.cell? ⟨w.heap.size,2,none⟩ = some (.int .i64 0):=by simp[World.cell?,hq1]
 have c3:w1.cell? ⟨w.heap.size,3,none⟩ = some (.int .i64 0):=by simp[World.cell?,hq1]
 have c4:w1.cell? ⟨w.heap.size,4,none⟩ = some (.int .i64 0):=by simp[World.cell?,hq1]
 have z0:w1.frozen? ⟨w.heap.size,0,none⟩ = false:=by simp[World.frozen?,hq1]
 have z1:w1.frozen? ⟨w.heap.size,1,none⟩ = false:=by simp[World.frozen?,hq1]
 have z2:w1.frozen? ⟨w.heap.size,2,none⟩ = false:=by simp[World.frozen?,hq1]
 have z3:w1.frozen? ⟨w.heap.size,3,none⟩ = false:=by simp[World.frozen?,hq1]
 have z4:w1.frozen? ⟨w.heap.size,4,none⟩ = false:=by simp[World.frozen?,hq1]
 have HB:=Lh (HB0.out.trans (hb1.mono HB0.out.size))
 clear hb1 hq1
 go_wp2
 exact bodyPost_ret (v:=.agg #[.slice none 0 0,.int .i64 0,.int .i64 er,.int .i64 x.line,.int .i64 x.col]) (by simp[results,Tryz.results141,go_sem,c0,c1,c2,c3,c4]) rfl ⟨rfl,below_tok HB.out (Nat.le_refl _) _ _ _ _ _⟩
theorem rcis_any {w:World} {B:Nat} {lv:Value} {T:List Tk} (h:TkIn w B lv T) (i kind:Int) (s:ByteArray) :
 Calls Tryz.prog 106 #[lv,.int .i64 i,.int .i64 kind,.string s] w fun e w'=>e=.returned (.bool (isTk T i kind s))∧Below w.heap.size w w':=by
 have HT:=Lh (rctok_any h i)
 obtain⟨x,hx⟩:∃ x,tkAt T i=x:=⟨_,rfl⟩
 have HX:=Lh hx
 have HI:Hid (isTk T i kind s= (decide (x.kind=kind) && decide (x.text=s))):=by unfold Hid isTk;rw[hx]
 clear h hx
 by_cases hk:x.kind=kind
 · have hkb: (x.kind == kind)=true:=by rw[beq_iff_eq];exact hk
   by_cases ht:x.text=s
   · have htb: (x.text.toList == s.toList)=true:=by rw[bytes_beq];exact decide_eq_true ht
     have HF:Hid (isTk T i kind s=true):=by unfold Hid;rw[HI.out,decide_eq_true hk,decide_eq_true ht];rfl
     clear hk ht
     go_enter Tryz.func106,Tryz.ntmps106
     go_wp2_with fail
     refine HT.out.mono ?_
     rintro e w1 ⟨rfl,hb1⟩
     rw[HX.out]
     unfold tokV
     have HB1:=Lh (hb1.alloc hb1.size (tO x))
     clear hb1
     go_wp2
     go_ret
     exact⟨ret_bool HF.out.symm,HB1.out⟩
   · have htb: (x.text.toList == s.toList)=false:=by rw[bytes_beq];exact decide_eq_false ht
     have HF:Hid (isTk T i kind s=false):=by unfold Hid;rw[HI.out,decide_eq_false ht,Bool.and_false]
     clear hk ht
     go_enter Tryz.func106,Tryz.ntmps106
     go_wp2_with fail
     refine HT.out.mono ?_
     rintro e w1 ⟨rfl,hb1⟩
     rw[HX.out]
     unfold tokV
     have HB1:=Lh (hb1.alloc hb1.size (tO x))
     clear hb1
     go_wp2
     go_ret
     exact⟨ret_bool HF.out.symm,HB1.out⟩
 · have hkb: (x.kind == kind)=false:=beq_eq_false_iff_ne.2 hk
   have HF:Hid (isTk T i kind s=false):=by unfold Hid;rw[HI.out,decide_eq_false hk,Bool.false_and]
   clear hk
   go_enter Tryz.func106,Tryz.ntmps106
   go_wp2_with fail
   refine HT.out.mono ?_
   rintro e w1 ⟨rfl,hb1⟩
   rw[HX.out]
   unfold tokV
   have HB1:=Lh (hb1.alloc hb1.size (tO x))
   clear hb1
   go_wp2
   go_ret
   exact⟨ret_bool HF.out.symm,HB1.out⟩
def wordV (x:Tk):Value:=if isWord x then .agg #[.string (wordName x),.int .i64 (wordNum x)] else .agg #[.string ⟨#[]⟩,.int .i64 0]
theorem wordV_yes {x:Tk} (h:isWord x=true):wordV x=.agg #[.string (wordName x),.int .i64 (wordNum x)]:=if_pos h
theorem wordV_no {x:Tk} (h:isWord x=false):wordV x=.agg #[.string ⟨#[]⟩,.int .i64 0]:=if_neg (by rw[h];simp)
theorem rcword_any (x:Tk) (w:World) :
 Calls Tryz.prog 153 #[tokV x] w fun e w'=>e=.returned (.tuple #[wordV x,.bool (isWord x)])∧Below w.heap.size w w':=by
 have hb:Below w.heap.size w ((w.alloc (tO x)).alloc (.cells #[.string ⟨#[]⟩,.int .i64 0] 85)):=((Below.refl _ w).alloc (Nat.le_refl _) _).alloc (by simp) _
 have HB:=Lh (show ∀ n m,Below w.heap.size w ((w.alloc (tO x)).alloc (.cells #[.string n,.int .i64 m] 85)) from fun n m=>((Below.refl _ w).alloc (Nat.le_refl _) _).alloc (by simp) _)
 clear hb
 unfold tokV
 by_cases h1:x.kind=1
 · have hk1: (x.kind == 1)=true:=by rw[beq_iff_eq];exact h1
   have HW:Hid (isWord x=true∧wordV x=.agg #[.string x.text,.int .i64 0]):=by
    have hw:isWord x=true:=by unfold isWord;rw[decide_eq_true h1];rfl
    refine⟨hw,?_⟩
    rw[wordV_yes hw];unfold wordName wordNum;rw[if_pos h1,if_pos h1]
   clear h1
   go_enter Tryz.func153,Tryz.ntmps153
   go_wp2
   exact bodyPost_ret (v:=.tuple #[.agg #[.string x.text,.int .i64 0],.bool true]) (by simp[results,Tryz.results153,go_sem]) rfl ⟨by rw[HW.out.1,HW.out.2],HB.out _ _⟩
 · have hk1: (x.kind == 1)=false:=beq_eq_false_iff_ne.2 h1
   by_cases h3:x.kind=3
   · have hk3: (x.kind == 3)=true:=by rw[beq_iff_eq];exact h3
     have HW:Hid (isWord x=true∧wordV x=.agg #[.string ⟨#[]⟩,.int .i64 x.num]):=by
      have hw:isWord x=true:=by unfold isWord;rw[decide_eq_true h3,Bool.or_true]
      refine⟨hw,?_⟩
      rw[wordV_yes hw];unfold wordName wordNum;rw[if_neg h1,if_neg h1]
     clear h1 h3
     go_enter Tryz.func153,Tryz.ntmps153
     go_wp2
     exact bodyPost_ret (v:=.tuple #[.agg #[.string ⟨#[]⟩,.int .i64 x.num],.bool true]) (by simp[results,Tryz.results153,go_sem]) rfl ⟨by rw[HW.out.1,HW.out.2],HB.out _ _⟩
   · have hk3: (x.kind == 3)=false:=beq_eq_false_iff_ne.2 h3
     have HW:Hid (isWord x=false∧wordV x=.agg #[.string ⟨#[]⟩,.int .i64 0]):=by
      have hw:isWord x=false:=by unfold isWord;rw[decide_eq_false h1,decide_eq_false h3];rfl
      exact⟨hw,wordV_no hw⟩
     clear h1 h3
     go_enter Tryz.func153,Tryz.ntmps153
     go_wp2
     exact bodyPost_ret (v:=.tuple #[.agg #[.string ⟨#[]⟩,.int .i64 0],.bool false]) (by simp[results,Tryz.results153,go_sem]) rfl ⟨by rw[HW.out.1,HW.out.2],HB.out _ _⟩
def strs (L:List ByteArray):List Value:=L.map Value.string
def idxN (s:ByteArray):List ByteArray→Nat→Option Nat
 | [],_=>none
 | x :: r,k=>if x=s then some k else idxN s r (k+1)
def idxP (L:List ByteArray) (s:ByteArray):Int:=match idxN s L 0 with|some k=>k|none=>-1
theorem idxN_drop (s:ByteArray) (L:List ByteArray) (k:Nat) (x:ByteArray) (h:L[k]?=some x):idxN s (L.drop k) k=if x=s then some k else idxN s (L.drop (k+1)) (k+1):=by
 obtain⟨hk,rfl⟩:=List.getElem?_eq_some_iff.1 h
 rw[List.drop_eq_getElem_cons hk,idxN]
theorem rcindex_any (v:Value) (L:List ByteArray) (s:ByteArray) (w:World) (hv:Reads w v (strs L)) (hl:L.length≤1000) :
 Calls Tryz.prog 143 #[v,.string s] w fun e w'=>e=.returned (.int .i64 (idxP L s))∧w=w':=by
 obtain⟨ad,cap,rfl,-⟩:=hv.len
 have hls: (strs L).length=L.length:=by simp[strs]
 rw[hls] at hv ⊢
 obtain⟨n,hn⟩:∃ n,L.length=n:=⟨_,rfl⟩
 rw[hn] at hv hl ⊢
 have HN:=Lh hn
 have HV:=Lh hv
 clear hn hv hls
 go_enter Tryz.func143,Tryz.ntmps143
 go_wp2
 go_loop [5] (fun i=>∃ k:Nat,i=.int .i64 k∧k≤n∧Hid (idxN s L 0=idxN s (L.drop k) k)) (fun i=>n - (intOf i).toNat)
 case atStart=>exact⟨0,rfl,Nat.zero_le _,rfl⟩
 case round=>
  obtain⟨k,rfl,hk,HI⟩:=hrel
  by_cases hlt:k < n
  · have p1: (k:Int) < (n:Int):=by omega
    obtain⟨x,hx⟩:∃ x,L[k]?=some x:=⟨_,List.getElem?_eq_getElem (by rw[HN.out];exact hlt)⟩
    obtain⟨b,o,rfl,hc⟩:=HV.out.at (by omega)
    have c1:w.cell? ⟨b,o+k,none⟩ = some (.string x):=hc k _ (by simp[strs,hx])
    have HD:=Lh (idxN_drop s L k x hx)
    clear hx hc
    by_cases he:x=s
    · have hb: (x.toList == s.toList)=true:=by rw[bytes_beq];exact decide_eq_true he
      have HF:Hid (idxP L s=k):=by unfold Hid idxP;rw[HI.out,HD.out,if_pos he]
      clear he
      go_wp2
      go_ret
      exact⟨ret_int HF.out.symm,rfl⟩
    · have hb: (x.toList == s.toList)=false:=by rw[bytes_beq];exact decide_eq_false he
      have HF:Hid (idxN s L 0=idxN s (L.drop (k+1)) (k+1)):=by unfold Hid;rw[HI.out,HD.out,if_neg he]
      clear he
      go_wp2
      go_round
      case rel=>exact⟨k+1,by go_num,by omega,HF⟩
      case measure=>simp[intOf];omega
  · obtain rfl:k=n:=by omega
    have HF:Hid (idxP L s= -1):=by unfold Hid idxP;rw[HI.out,←HN.out,List.drop_length];rfl
    go_wp2
    go_ret
    exact⟨ret_int HF.out.symm,rfl⟩
def PrB (w:World) (b:Nat) (v:Value) (a e l c:Int):Prop:=w.heap[b]?=some (.cells #[v,.int .i64 a,.int .i64 e,.int .i64 l,.int .i64 c] 117 (0,0))
theorem PrB.facts {w:World} {b:Nat} {v:Value} {a e l c:Int} (h:PrB w b v a e l c) :
 w.cell? ⟨b,0,none⟩ = some v∧w.cell? ⟨b,1,none⟩ = some (.int .i64 a)∧w.cell? ⟨b,2,none⟩ = some (.int .i64 e)∧w.cell? ⟨b,3,none⟩ = some (.int .i64 l)∧w.cell? ⟨b,4,none⟩ = some (.int .i64 c):=by
 unfold PrB at h
 refine⟨?_,?_,?_,?_,?_⟩ <;> simp[World.cell?,h]
theorem PrB.free {w:World} {b:Nat} {v:Value} {a e l c:Int} (h:PrB w b v a e l c) :
 w.frozen? ⟨b,0,none⟩ = false∧w.frozen? ⟨b,1,none⟩ = false∧w.frozen? ⟨b,2,none⟩ = false∧w.frozen? ⟨b,3,none⟩ = false∧w.frozen? ⟨b,4,none⟩ = false:=by
 unfold PrB at h
 refine⟨?_,?_,?_,?_,?_⟩ <;> simp[World.frozen?,h]
theorem PrB.lt {w:World} {b:Nat} {v:Value} {a e l c:Int} (h:PrB w b v a e l c):b < w.heap.size:=(Array.getElem?_eq_some_iff.1 h).1
theorem PrB.below {w w':World} {b:Nat} {v:Value} {a e l c:Int} (h:PrB w b v a e l c) (hb:Below w.heap.size w w'):PrB w' b v a e l c:=(hb.block b h.lt).trans h
theorem PrB.alloc {w:World} {b:Nat} {v:Value} {a e l c:Int} (h:PrB w b v a e l c) (o:Obj):PrB (w.alloc o) b v a e l c:=(Below.heap_alloc _ _ _ h.lt).trans h
theorem PrB.drew {w:World} {b:Nat} {v:Value} {a e l c:Int} (h:PrB w b v a e l c):PrB w.drew b v a e l c:=h
theorem PrB.grown {w w':World} {b:Nat} {v:Value} {a e l c:Int} {row:Option Nat} (h:PrB w b v a e l c) (hg:w.grownBy w' row) (hne:row≠some b):PrB w' b v a e l c:=(hg.block b h.lt (Ne.symm hne)).trans h
theorem PrB.over {w:World} {b k j:Nat} {v:Value} {a e l c:Int} (h:PrB w b v a e l c) (hne:b≠k) (u:Value):PrB (w.setCell ⟨k,j,none⟩ u) b v a e l c:=(Below.heap_setCell _ _ _ _ (by show b≠k;exact hne)).trans h
theorem PrB.stored {w:World} {b:Nat} {v:Value} {a e l c:Int} (h:PrB w b v a e l c) (v2:Value) (a2 e2 l2 c2:Int) :
 PrB (((((w.setCell ⟨b,0,none⟩ v2).setCell ⟨b,1,none⟩ (.int .i64 a2)).setCell ⟨b,2,none⟩ (.int .i64 e2)).setCell ⟨b,3,none⟩ (.int .i64 l2)).setCell ⟨b,4,none⟩ (.int .i64 c2)) b v2 a2 e2 l2 c2:=
 heap_setCell_same _ b 4 _ _ (.int .i64 c2) (heap_setCell_same _ b 3 _ _ (.int .i64 l2) (heap_setCell_same _ b 2 _ _ (.int .i64 e2) (heap_setCell_same _ b 1 _ _ (.int .i64 a2) (heap_setCell_same w b 0 _ _ v2 h))))
theorem PrB.row {w:World} {b base n:Nat} {t:TypeId} {sz:Nat} {vr v:Value} {a e l c:Int} {xs:List Value} (h:PrB w b v a e l c) (hr:w.ownsRow base t sz vr n xs) (ht:117≠t) (v2:Value) (a2 e2 l2 c2:Int) :
 (((((w.setCell ⟨b,0,none⟩ v2).setCell ⟨b,1,none⟩ (.int .i64 a2)).setCell ⟨b,2,none⟩ (.int .i64 e2)).setCell ⟨b,3,none⟩ (.int .i64 l2)).setCell ⟨b,4,none⟩ (.int .i64 c2)).ownsRow base t sz vr n xs:=by
 have s0:=heap_setCell_same w b 0 _ _ v2 h
 have s1:=heap_setCell_same _ b 1 _ _ (.int .i64 a2) s0
 have s2:=heap_setCell_same _ b 2 _ _ (.int .i64 e2) s1
 have s3:=heap_setCell_same _ b 3 _ _ (.int .i64 l2) s2
 exact row_store (row_store (row_store (row_store (row_store hr h ht _ _) s0 ht _ _) s1 ht _ _) s2 ht _ _) s3 ht _ _
theorem row_news {w W:World} {base g n cap:Nat} {xs:List Value} (h:w.ownsRow base 87 9 (.slice (some ⟨g,0,none⟩) n cap) n xs) (hW:Below w.heap.size w W) :
 ∀ j u,xs[j]?=some u→W.cell? ((⟨g,0,none⟩:Addr).add j)=some u:=by
 intro j u hj
 have hadd: (⟨g,0,none⟩:Addr).add j= ⟨g,j,none⟩:=by unfold Addr.add;split <;> simp_all
 have hlt:=(h.lt g rfl).2
 have hjn:j < n * 9:=by rw[←h.1];exact(List.getElem?_eq_some_iff.1 hj).1
 rw[hadd,hW.cell (p:=⟨g,j,none⟩) hlt,h.cellAt j hjn,hj]
theorem it_one (o:List It):∀ u ∈ itFlat o,u.oneCell'=true:=by
 intro u hu
 unfold itFlat at hu
 obtain⟨x,_,hx⟩:=List.mem_flatMap.1 hu
 simp only[itCells,List.mem_cons,List.not_mem_nil,or_false] at hx
 rcases hx with rfl|rfl|rfl|rfl|rfl|rfl|rfl|rfl|rfl <;> rfl
theorem also_two {w:World} {b1 b2 g1 cap1 g2 cap2 n1 n2:Nat} {o1 o2:List It} (h1:w.ownsRow b1 87 9 (.slice (some ⟨g1,0,none⟩) n1 cap1) n1 (itFlat o1)) (h2:w.ownsRow b2 87 9 (.slice (some ⟨g2,0,none⟩) n2 cap2) n2 (itFlat o2)) (hn1:0 < n1) (hn2:0 < n2) (hl1:n1≤1000000) (hl2:n2≤1000000)
 (a1 e1 l1 c1 a2 e2 l2 c2:Int) (x:It) :
 Calls Tryz.prog 107 #[.agg #[.slice (some ⟨g1,0,none⟩) n1 cap1,.int .i64 a1,.int .i64 e1,.int .i64 l1,.int .i64 c1],.agg #[.slice (some ⟨g2,0,none⟩) n2 cap2,.int .i64 a2,.int .i64 e2,.int .i64 l2,.int .i64 c2],.agg #[.int .i64 x.op,.string x.ln,.int .i64 x.lnum,.string x.rn,.int .i64 x.rnum,.string x.name,.string x.user,.int .i64 x.line,.int .i64 x.col]] w fun e w'=>∃ g cap,e=.returned (.agg #[.slice (some ⟨g,0,none⟩) (n1+n2+1) cap,.int .i64 a2,.int .i64 0,.int .i64 0,.int .i64 0])∧
  w'.ownsRow w.heap.size 87 9 (.slice (some ⟨g,0,none⟩) (n1+n2+1) cap) (n1+n2+1) (itFlat (o1 ++o2 ++ [x]))∧Below w.heap.size w w':=by
 have hb4:Below w.heap.size w ((((w.alloc (.cells #[.slice (some ⟨g1,0,none⟩) n1 cap1,.int .i64 a1,.int .i64 e1,.int .i64 l1,.int .i64 c1] 117)).alloc (.cells #[.slice (some ⟨g2,0,none⟩) n2 cap2,.int .i64 a2,.int .i64 e2,.int .i64 l2,.int .i64 c2] 117)).alloc (.cells #[.int .i64 x.op,.string x.ln,.int .i64 x.lnum,.string x.rn,.int .i64 x.rnum,.string x.name,.string x.user,.int .i64 x.line,.int .i64 x.col] 87)).alloc oB6):=by
  exact((((Below.refl _ w).alloc (Nat.le_refl _) _).alloc (by simp) _).alloc (by simp;omega) _).alloc (by simp;omega) _
 have q0:PrB ((((w.alloc (.cells #[.slice (some ⟨g1,0,none⟩) n1 cap1,.int .i64 a1,.int .i64 e1,.int .i64 l1,.int .i64 c1] 117)).alloc (.cells #[.slice (some ⟨g2,0,none⟩) n2 cap2,.int .i64 a2,.int .i64 e2,.int .i64 l2,.int .i64 c2] 117)).alloc (.cells #[.int .i64 x.op,.string x.ln,.int .i64 x.lnum,.string x.rn,.int .i64 x.rnum,.string x.name,.string x.user,.int .i64 x.line,.int .i64 x.col] 87)).alloc oB6) w.heap.size (.slice (some ⟨g1,0,none⟩) n1 cap1) a1 e1 l1 c1:=(((PrB.alloc (heap_alloc_new w _) _).alloc _).alloc _)
 have q1:PrB ((((w.alloc (.cells #[.slice (some ⟨g1,0,none⟩) n1 cap1,.int .i64 a1,.int .i64 e1,.int .i64 l1,.int .i64 c1] 117)).alloc (.cells #[.slice (some ⟨g2,0,none⟩) n2 cap2,.int .i64 a2,.int .i64 e2,.int .i64 l2,.int .i64 c2] 117)).alloc (.cells #[.int .i64 x.op,.string x.ln,.int .i64 x.lnum,.string x.rn,.int .i64 x.rnum,.string x.name,.string x.user,.int .i64 x.line,.int .i64 x.col] 87)).alloc oB6) (w.heap.size+1) (.slice (some ⟨g2,0,none⟩) n2 cap2) a2 e2 l2 c2:=((PrB.alloc (heap_at_size _ _ _ (by simp)) _).alloc _)
 have q2:ItB ((((w.alloc (.cells #[.slice (some ⟨g1,0,none⟩) n1 cap1,.int .i64 a1,.int .i64 e1,.int .i64 l1,.int .i64 c1] 117)).alloc (.cells #[.slice (some ⟨g2,0,none⟩) n2 cap2,.int .i64 a2,.int .i64 e2,.int .i64 l2,.int .i64 c2] 117)).alloc (.cells #[.int .i64 x.op,.string x.ln,.int .i64 x.lnum,.string x.rn,.int .i64 x.rnum,.string x.name,.string x.user,.int .i64 x.line,.int .i64 x.col] 87)).alloc oB6) (w.heap.size+2) x:=ItB.alloc (heap_at_size _ _ _ (by simp)) _
 have q3:PrB ((((w.alloc (.cells #[.slice (some ⟨g1,0,none⟩) n1 cap1,.int .i64 a1,.int .i64 e1,.int .i64 l1,.int .i64 c1] 117)).alloc (.cells #[.slice (some ⟨g2,0,none⟩) n2 cap2,.int .i64 a2,.int .i64 e2,.int .i64 l2,.int .i64 c2] 117)).alloc (.cells #[.int .i64 x.op,.string x.ln,.int .i64 x.lnum,.string x.rn,.int .i64 x.rnum,.string x.name,.string x.user,.int .i64 x.line,.int .i64 x.col] 87)).alloc oB6) (w.heap.size+3) (.slice none 0 0) 0 0 0 0:=heap_at_size _ _ _ (by simp)
 have hs4: ((((w.alloc (.cells #[.slice (some ⟨g1,0,none⟩) n1 cap1,.int .i64 a1,.int .i64 e1,.int .i64 l1,.int .i64 c1] 117)).alloc (.cells #[.slice (some ⟨g2,0,none⟩) n2 cap2,.int .i64 a2,.int .i64 e2,.int .i64 l2,.int .i64 c2] 117)).alloc (.cells #[.int .i64 x.op,.string x.ln,.int .i64 x.lnum,.string x.rn,.int .i64 x.rnum,.string x.name,.string x.user,.int .i64 x.line,.int .i64 x.col] 87)).alloc oB6).heap.size=w.heap.size+4:=by simp
 have H1:=Lh h1;have H2:=Lh h2
 have hx1: (itFlat o1).length=n1 * 9:=h1.1
 have hx2: (itFlat o2).length=n2 * 9:=h2.1
 have hg1:g1 < w.heap.size:=by have:=(h1.lt g1 rfl).2;omega
 have hg2:g2 < w.heap.size:=by have:=(h2.lt g2 rfl).2;omega
 have HX1:=Lh hx1;have HX2:=Lh hx2
 have HB4:=Lh hb4;have Q0:=Lh q0;have Q1:=Lh q1;have Q2:=Lh q2;have Q3:=Lh q3;have HS4:=Lh hs4
 obtain⟨i0,hi0,hz0,hz1,hz2⟩:=info_parts info_item
 have HIP:=Lh (And.intro hi0 (And.intro hz0 (And.intro hz1 hz2)))
 clear h1 h2 hx1 hx2 hb4 q0 q1 q2 q3 hs4 hi0 hz0 hz1 hz2
 go_enter Tryz.func107,Tryz.ntmps107
 go_wp2
 obtain⟨W4,hW4⟩:∃ W,((((w.alloc (.cells #[.slice (some ⟨g1,0,none⟩) n1 cap1,.int .i64 a1,.int .i64 e1,.int .i64 l1,.int .i64 c1] 117)).alloc (.cells #[.slice (some ⟨g2,0,none⟩) n2 cap2,.int .i64 a2,.int .i64 e2,.int .i64 l2,.int .i64 c2] 117)).alloc (.cells #[.int .i64 x.op,.string x.ln,.int .i64 x.lnum,.string x.rn,.int .i64 x.rnum,.string x.name,.string x.user,.int .i64 x.line,.int .i64 x.col] 87)).alloc oB6)=W:=⟨_,rfl⟩
 rw[hW4] at HB4 Q0 Q1 Q2 Q3 HS4 ⊢
 clear hW4
 obtain⟨s0,_,_,_,_⟩:=Q0.out.facts
 obtain⟨s1,s2,_,_,_⟩:=Q1.out.facts
 have hB5:Hid (Below w.heap.size w (W4.alloc (.cells #[] 87)).drew):=(HB4.out.alloc HB4.out.size _).drew
 have hS5:Hid ((W4.alloc (.cells #[] 87)).drew.heap.size=W4.heap.size+1):=by unfold Hid;show(W4.alloc _).heap.size=_;rw[World.size_alloc]
 have hs4a:w.heap.size+4≤W4.heap.size:=by have:=HS4.out;omega
 have OWN0:Hid ((W4.alloc (.cells #[] 87)).drew.ownsRow w.heap.size 87 9 (.slice (some ⟨W4.heap.size,0,none⟩) 0 0) 0 []):=by
  have:=World.ownsRow_lit (e:=87) (size:=9) W4 #[] 0 (Nat.le_refl _) (Nat.zero_le _) (by simp)
  exact owns_mono this.drew (by have:=HS4.out;omega)
 first
 | (go_region_held3 (fun w'=>w'.cell? ⟨w.heap.size,0,none⟩ = some (.slice (some ⟨g1,0,none⟩) n1 cap1)∧w'.cell? ⟨w.heap.size+1,0,none⟩ = some (.slice (some ⟨g2,0,none⟩) n2 cap2))
     (first|go_keep| (refine⟨?_,?_⟩ <;> (first|assumption|go_keep)))
     (first
       | (refine step_append_lies _ (by rfl) _ _ _ (by rfl) w.heap.size 87 i0 _ 9 104 Tryz.underlying35 HIP.out.1 HIP.out.2.1 HIP.out.2.2.1 HIP.out.2.2.2 rfl (by omega) (.slice (some ⟨W4.heap.size,0,none⟩) 0 0) 0 [] (by rfl) OWN0.out ⟨g1,0,none⟩ n1 cap1 (itFlat o1) (by rfl) HX1.out (row_news H1.out hB5.out) (it_one o1) hn1 (by unfold maxLen;omega) (by omega) (by rw[hS5.out];omega) (W4.heap.size+1) hS5.out ?_
          intro g3 cap3 w5 hown3 hgrow hat hlt3
          have hb5:Below w.heap.size w w5:=hB5.out.trans (below_of_grown hgrow (fun k e=>(OWN0.out.lt k e).1) (by rw[hS5.out];omega))
          have k0:=(Q0.out.alloc _).drew.grown hgrow (by simp[Value.ownBlock];omega)
          have k1:=(Q1.out.alloc _).drew.grown hgrow (by simp[Value.ownBlock];omega)
          have k2:=(Q2.out.alloc _).drew.grown hgrow (by simp[Value.ownBlock];omega)
          have k3:=(Q3.out.alloc _).drew.grown hgrow (by simp[Value.ownBlock];omega)
          obtain⟨s3,_,_,_,_⟩:=k0.facts
          obtain⟨s4,s5,_,_,_⟩:=k1.facts
          have hgs3:w.heap.size+4≤g3:=by rcases hat with e|e;(simp[Value.ownBlock] at e;omega);omega
          have HO3:=Lh hown3;have HB5':=Lh hb5;have K1:=Lh k1;have K2:=Lh k2;have K3:=Lh k3
          clear hown3 hgrow hat hb5 k0 k1 k2 k3)
       | (refine step_append_lies _ (by rfl) _ _ _ (by rfl) w.heap.size 87 i0 _ 9 104 Tryz.underlying35 HIP.out.1 HIP.out.2.1 HIP.out.2.2.1 HIP.out.2.2.2 rfl (by omega) (.slice (some ⟨g3,0,none⟩) (0+n1) cap3) (0+n1) ([] ++itFlat o1) (by rfl) HO3.out ⟨g2,0,none⟩ n2 cap2 (itFlat o2) (by rfl) HX2.out (row_news H2.out HB5'.out) (it_one o2) hn2 (by unfold maxLen;omega) (by omega) HB5'.out.size w5.heap.size rfl ?_
          intro g4 cap4 w6 hown4 hgrow4 hat4 hlt4
          have hb6:Below w.heap.size w w6:=HB5'.out.trans (below_of_grown hgrow4 (fun k e=>(HO3.out.lt k e).1) HB5'.out.size)
          have hgs4:w.heap.size+4≤g4:=by rcases hat4 with e|e;(simp[Value.ownBlock] at e;omega);omega
          have k1:=K1.out.grown hgrow4 (by simp[Value.ownBlock];omega)
          have k2:=K2.out.grown hgrow4 (by simp[Value.ownBlock];omega)
          have k3:=K3.out.grown hgrow4 (by simp[Value.ownBlock];omega)
          have k0:w6.cell? ⟨w.heap.size,0,none⟩ = some (.slice (some ⟨g1,0,none⟩) n1 cap1):=by
           refine(World.cell?_of_block (a:=⟨w.heap.size,0,none⟩) (hgrow4.block _ (World.block_lt_of_cell? _ _ s3) ?_)).trans s3
           simp[Value.ownBlock];omega
          obtain⟨s6,s7,_,_,_⟩:=k1.facts
          have HO4:=Lh hown4;have HB6:=Lh hb6;have L1:=Lh k1;have L2:=Lh k2;have L3:=Lh k3
          clear hown4 hgrow4 hat4 hb6 k1 k2 k3)))
 | fail
 all_goals
  obtain⟨r0,r1,r2,r3,r4,r5,r6,r7,r8⟩:=L2.out.facts
  obtain⟨r9,r10,r11,r12,r13⟩:=L3.out.facts
  obtain⟨y9,y10,y11,y12,y13⟩:=L3.out.free
  have hB7:Hid (Below w.heap.size w (w6.alloc (.cells #[.int .i64 x.op,.string x.ln,.int .i64 x.lnum,.string x.rn,.int .i64 x.rnum,.string x.name,.string x.user,.int .i64 x.line,.int .i64 x.col] 87)).drew):=(HB6.out.alloc HB6.out.size _).drew
  have hS7:Hid ((w6.alloc (.cells #[.int .i64 x.op,.string x.ln,.int .i64 x.lnum,.string x.rn,.int .i64 x.rnum,.string x.name,.string x.user,.int .i64 x.line,.int .i64 x.col] 87)).drew.heap.size=w6.heap.size+1):=by unfold Hid;show(w6.alloc _).heap.size=_;rw[World.size_alloc]
  have OWN4:Hid ((w6.alloc (.cells #[.int .i64 x.op,.string x.ln,.int .i64 x.lnum,.string x.rn,.int .i64 x.rnum,.string x.name,.string x.user,.int .i64 x.line,.int .i64 x.col] 87)).drew.ownsRow w.heap.size 87 9 (.slice (some ⟨g4,0,none⟩) (n1+n2) cap4) (n1+n2) ([] ++itFlat o1 ++itFlat o2)):=by
   have:=HO4.out
   rw[Nat.zero_add] at this
   exact(this.alloc _).drew
  have hsz6:=HB6.out.size
  clear k0
  go_wp2
  first
  | (go_region_held3 (fun w'=>w'.cell? ⟨w.heap.size+2,0,none⟩ = some (.int .i64 x.op)∧w'.cell? ⟨w.heap.size+2,1,none⟩ = some (.string x.ln)∧w'.cell? ⟨w.heap.size+2,2,none⟩ = some (.int .i64 x.lnum)∧w'.cell? ⟨w.heap.size+2,3,none⟩ = some (.string x.rn)∧w'.cell? ⟨w.heap.size+2,4,none⟩ = some (.int .i64 x.rnum)∧w'.cell? ⟨w.heap.size+2,5,none⟩ = some (.string x.name)∧w'.cell? ⟨w.heap.size+2,6,none⟩ = some (.string x.user)∧w'.cell? ⟨w.heap.size+2,7,none⟩ = some (.int .i64 x.line)∧w'.cell? ⟨w.heap.size+2,8,none⟩ = some (.int .i64 x.col)∧w'.cell? ⟨w.heap.size+1,1,none⟩ = some (.int .i64 a2))
      (first| (with_reducible exact⟨t2,t3,t4,t5,t6,t7,t8,t9,t10,t1⟩)|go_keep)
      (first
        | (refine step_append_lies _ (by rfl) _ _ _ (by rfl) w.heap.size 87 i0 _ 9 104 Tryz.underlying35 HIP.out.1 HIP.out.2.1 HIP.out.2.2.1 HIP.out.2.2.2 rfl (by omega) (.slice (some ⟨g4,0,none⟩) (n1+n2) cap4) (n1+n2) ([] ++itFlat o1 ++itFlat o2) (by rfl) OWN4.out ⟨w6.heap.size,0,none⟩ 1 1 [.int .i64 x.op,.string x.ln,.int .i64 x.lnum,.string x.rn,.int .i64 x.rnum,.string x.name,.string x.user,.int .i64 x.line,.int .i64 x.col] (by rfl) (by rfl) (World.news_of_block (cs:=#[.int .i64 x.op,.string x.ln,.int .i64 x.lnum,.string x.rn,.int .i64 x.rnum,.string x.name,.string x.user,.int .i64 x.line,.int .i64 x.col]) (t:=87) (fr:=(0,0)) (heap_alloc_new w6 _)) (by simp[Value.oneCell']) (by omega) (by unfold maxLen;omega) (by omega) (by rw[hS7.out];omega) (w6.heap.size+1) hS7.out ?_
           intro g5 cap5 w8 hown5 hgrow5 hat5 hlt5
           have hb8:Below w.heap.size w w8:=hB7.out.trans (below_of_grown hgrow5 (fun k e=>(OWN4.out.lt k e).1) (by rw[hS7.out];omega))
           have m1:=(L1.out.alloc _).drew.grown hgrow5 (by simp[Value.ownBlock];omega)
           have m2:=(L2.out.alloc _).drew.grown hgrow5 (by simp[Value.ownBlock];omega)
           have m3:=(L3.out.alloc _).drew.grown hgrow5 (by simp[Value.ownBlock];omega)
           obtain⟨_,p1,_,_,_⟩:=m1.facts
           obtain⟨p2,p3,p4,p5,p6,p7,p8,p9,p10⟩:=m2.facts
           obtain⟨p11,p12,p13,p14,p15⟩:=m3.facts
           obtain⟨p16,p17,p18,p19,p20⟩:=m3.free
           have tk:=fun(g j:Nat) (v:Value) (hg:g≠w.heap.size+3) (h:w8.cell? ⟨g,j,none⟩ = some v)=>cell_tok (k:=w.heap.size+3) (.slice (some ⟨g5,0,none⟩) (n1+n2+1) cap5) (.int .i64 a2) (.int .i64 0) (.int .i64 0) (.int .i64 0) hg h
           have t1:=tk _ _ _ (by omega) p1;have t2:=tk _ _ _ (by omega) p2;have t3:=tk _ _ _ (by omega) p3;have t4:=tk _ _ _ (by omega) p4;have t5:=tk _ _ _ (by omega) p5;have t6:=tk _ _ _ (by omega) p6;have t7:=tk _ _ _ (by omega) p7;have t8:=tk _ _ _ (by omega) p8;have t9:=tk _ _ _ (by omega) p9;have t10:=tk _ _ _ (by omega) p10
           clear tk
           have HO5:=Lh hown5;have HB8:=Lh hb8;have M3:=Lh m3
           clear hown5 hgrow5 hat5 hb8 m1 m2 m3)))
  | fail
  all_goals
   have hE:=Lh (M3.out.stored (.slice (some ⟨g5,0,none⟩) (n1+n2+1) cap5) a2 0 0 0).facts
   have hROW:=Lh (PrB.row M3.out HO5.out (by decide) (.slice (some ⟨g5,0,none⟩) (n1+n2+1) cap5) a2 0 0 0)
   have hBEL:=Lh (below_tok HB8.out (show w.heap.size≤w.heap.size+3 by omega) (.slice (some ⟨g5,0,none⟩) (n1+n2+1) cap5) (.int .i64 a2) (.int .i64 0) (.int .i64 0) (.int .i64 0))
   go_wp2
   obtain⟨e0,e1,e2,e3,e4⟩:=hE.out
   refine bodyPost_ret (v:=.agg #[.slice (some ⟨g5,0,none⟩) (n1+n2+1) cap5,.int .i64 a2,.int .i64 0,.int .i64 0,.int .i64 0]) (by simp[results,Tryz.results107,go_sem,e0,e1,e2,e3,e4]) rfl ⟨g5,cap5,rfl,?_,hBEL.out⟩
   have hfl:itFlat (o1 ++o2 ++ [x])= [] ++itFlat o1 ++itFlat o2 ++ [.int .i64 x.op,.string x.ln,.int .i64 x.lnum,.string x.rn,.int .i64 x.rnum,.string x.name,.string x.user,.int .i64 x.line,.int .i64 x.col]:=by simp[itFlat,itCells]
   rw[hfl]
   exact hROW.out
end Go.Proofs.YthlofmnmacpogaaGreatDoor
