/- A part of a proof of DeclReadsProof. -/
import Derived.Test.YthlofmnmacpogaaGreatDoorRt02
import Derived.Test.YthlofmnmacpogaaGreatDoorRt01
import Derived.Deep.RegionHeld3
import Derived.Deep.AppendLies
import Derived.Deep.RegionLaw
import Derived.BigRegion
set_option maxRecDepth 100000
set_option maxHeartbeats 40000000
namespace Go.Proofs.YthlofmnmacpogaaGreatDoor
open Go.RowKit
theorem allR_len (s:ByteArray): (allR s).length= (allRaw s).length:=by rw[←all_fix,List.length_map]
theorem textRunes_ok (s:ByteArray) (w:World) (hs:s.size≤4294967296) (hl: (allR s).length≤16384) :
 Calls Tryz.prog 29 #[.string s] w fun e w'=>∃ v,e=.returned (.tuple #[v,.int .i64 0])∧w'.ownsRow w.heap.size 96 5 v (allR s).length (rnFlat .i32 (allR s))∧Below w.heap.size w w':=by
 have h1: (allRaw s).take 16385=allRaw s:=List.take_of_length_le (by rw[←allR_len];omega)
 have H:Hid (((allRaw s).take 16385).length= (allR s).length∧((allRaw s).take 16385).map Rn.fix=allR s):=by
  unfold Hid;rw[h1,allR_len,all_fix];exact⟨rfl,rfl⟩
 clear h1
 go_enter Tryz.func29,Tryz.ntmps29
 go_wp2_with fail
 refine(runes_any s _ hs).mono ?_
 rintro e w1 ⟨v,rfl,hown,hb⟩
 rw[H.out.1,H.out.2] at hown
 obtain⟨ad,cap,rfl⟩:=owns_len hown
 have HO:=Lib.hid hown;clear hown
 go_wp2
 go_ret2
 exact⟨_,rfl,HO.out,hb⟩
theorem textRunes_long (s:ByteArray) (w:World) (hs:s.size≤4294967296) (hl:16384 < (allR s).length) :
 Calls Tryz.prog 29 #[.string s] w fun e w'=>e=.returned (.tuple #[.slice none 0 0,.int .i64 3])∧Below w.heap.size w w':=by
 have H:Hid (((allRaw s).take 16385).length=16385):=by
  unfold Hid;rw[List.length_take,←allR_len];omega
 clear hl
 go_enter Tryz.func29,Tryz.ntmps29
 go_wp2_with fail
 refine(runes_any s _ hs).mono ?_
 rintro e w1 ⟨v,rfl,hown,hb⟩
 rw[H.out] at hown
 obtain⟨ad,cap,rfl⟩:=owns_len hown
 clear hown
 go_wp2
 go_ret2
 exact⟨rfl,hb⟩
def endAt (s:ByteArray):Nat→Nat→Int→Int→Int × Int
 | 0,_,line,col=>(line,col)
 | k+1,p,line,col=>if p < s.size then endAt s k (p+decN s p) (nextLine (decR s p) line) (nextCol (decR s p) col) else(line,col)
theorem endAt_more (s:ByteArray) (k p:Nat) (line col:Int) (h:s.size≤p+k):endAt s (k+1) p line col=endAt s k p line col:=by
 induction k generalizing p line col with
 | zero=>simp only[endAt];rw[if_neg (by omega)]
 | succ k ih=>
   by_cases hp:p < s.size
   · have:=decN_pos s p
     rw[endAt]
     conv=>rhs;rw[endAt]
     rw[if_pos hp,if_pos hp,ih _ _ _ (by omega)]
   · rw[endAt];conv=>rhs;rw[endAt]
     rw[if_neg hp,if_neg hp]
theorem endAt_eq (s:ByteArray) (k j p:Nat) (line col:Int) (h:s.size≤p+k) (h':s.size≤p+j):endAt s k p line col=endAt s j p line col:=by
 have key:∀ d m,s.size≤p+m→endAt s (m+d) p line col=endAt s m p line col:=by
  intro d
  induction d with
  | zero=>intro m _;rfl
  | succ d ih=>intro m hm;rw[←Nat.add_assoc,endAt_more s (m+d) p line col (by omega),ih m hm]
 rcases Nat.le_total k j with hkj|hkj
 · have:=key (j - k) k h;rw[show k+ (j - k)=j by omega] at this;exact this.symm
 · have:=key (k - j) j h';rw[show j+ (k - j)=k by omega] at this;exact this
def endP (s:ByteArray) (p:Nat) (line col:Int):Int × Int:=endAt s (s.size - p) p line col
theorem endP_next (s:ByteArray) (p:Nat) (line col:Int) (h:p < s.size):endP s p line col=endP s (p+decN s p) (nextLine (decR s p) line) (nextCol (decR s p) col):=by
 unfold endP
 obtain⟨k,hk⟩:∃ k,s.size - p=k+1:=⟨s.size - p - 1,by omega⟩
 rw[hk,endAt,if_pos h]
 have:=decN_pos s p
 exact endAt_eq s _ _ _ _ _ (by omega) (by omega)
theorem endP_end (s:ByteArray) (p:Nat) (line col:Int) (h:¬p < s.size):endP s p line col= (line,col):=by
 unfold endP;rw[show s.size - p=0 by omega];rfl
def endL (s:ByteArray):Int:=(endP s 0 1 1).1
def endC (s:ByteArray):Int:=(endP s 0 1 1).2
theorem nextRaw (s:ByteArray) (p:Nat) (line col:Int):nextLine (rawR s p) line=nextLine (decR s p) line∧nextCol (rawR s p) col=nextCol (decR s p) col:=by
 constructor
 · unfold nextLine;simp only[raw_ten]
 · unfold nextCol;simp only[raw_ten]
theorem next_bd (r line col:Int) (p d:Nat) (hd:1≤d) (a:0≤line∧line≤p+1∧0≤col∧col≤p+1):0≤nextLine r line∧nextLine r line≤(p+d:Nat)+1∧0≤nextCol r col∧nextCol r col≤(p+d:Nat)+1:=by
 unfold nextLine nextCol
 refine⟨?_,?_,?_,?_⟩ <;> split <;> omega
theorem at_any (s:ByteArray) (w:World) (hs:s.size≤4294967296) :
 Calls Tryz.prog 31 #[.string s,.int .i64 s.size] w fun e w'=>e=.returned (.agg #[.int .i64 (endL s),.int .i64 (endC s)])∧Below w.heap.size w w':=by
 have H0:Hid ((((w.alloc (.cells #[.int .i64 0,.int .i64 0] 26)).alloc (.cells #[.int .i64 1,.int .i64 1] 26)).iter s 0).heap[w.heap.size+2]?=some (.stringIter s 0)∧
  PosAt (((w.alloc (.cells #[.int .i64 0,.int .i64 0] 26)).alloc (.cells #[.int .i64 1,.int .i64 1] 26)).iter s 0) w.heap.size 26 0 0∧
  PosAt (((w.alloc (.cells #[.int .i64 0,.int .i64 0] 26)).alloc (.cells #[.int .i64 1,.int .i64 1] 26)).iter s 0) (w.heap.size+1) 26 1 1∧
  Below w.heap.size w (((w.alloc (.cells #[.int .i64 0,.int .i64 0] 26)).alloc (.cells #[.int .i64 1,.int .i64 1] 26)).iter s 0)):=by
  refine⟨?_,?_,?_,?_⟩
  · have:=World.iter_heap ((w.alloc (.cells #[.int .i64 0,.int .i64 0] 26)).alloc (.cells #[.int .i64 1,.int .i64 1] 26)) s 0
    simpa using this
  · show(World.iter _ s 0).heap[w.heap.size]?=_
    rw[(World.iter_extends ((w.alloc (.cells #[.int .i64 0,.int .i64 0] 26)).alloc (.cells #[.int .i64 1,.int .i64 1] 26)) s 0).block _ (by simp;omega),Below.heap_alloc _ _ _ (by simp)]
    exact heap_alloc_new w _
  · show(World.iter _ s 0).heap[w.heap.size+1]?=_
    rw[(World.iter_extends ((w.alloc (.cells #[.int .i64 0,.int .i64 0] 26)).alloc (.cells #[.int .i64 1,.int .i64 1] 26)) s 0).block _ (by simp)]
    have:=heap_alloc_new (w.alloc (.cells #[.int .i64 0,.int .i64 0] 26)) (.cells #[.int .i64 1,.int .i64 1] 26)
    simpa using this
  · exact(((Below.refl _ w).alloc (Nat.le_refl _) _).alloc (by simp) _).alloc (by simp;omega) _
 go_enter Tryz.func31,Tryz.ntmps31
 go_wp2
 go_loopw [6,7] (fun _ _ wr=>∃ (p:Nat) (line col:Int),p≤s.size∧(0≤line∧line≤p+1∧0≤col∧col≤p+1)∧wr.heap[w.heap.size+2]?=some (.stringIter s p)∧PosAt wr w.heap.size 26 0 0∧
  PosAt wr (w.heap.size+1) 26 line col∧Below w.heap.size w wr∧Hid (endP s 0 1 1=endP s p line col)) (fun _ _ wr=>s.size - wr.iterPos (w.heap.size+2))
 case atStart=>exact⟨0,1,1,Nat.zero_le _,by omega,H0.out.1,H0.out.2.1,H0.out.2.2.1,H0.out.2.2.2,rfl⟩
 case round=>
  obtain⟨p,line,col,hp,⟨hl0,hl1,hl2,hl3⟩,hit,hres,hpos,hb,HE⟩:=hrel
  clear H0
  have hpo: (wr.iterPos (w.heap.size+2))=p:=by simp[World.iterPos,hit]
  have HPO:=Lib.hid hpo;clear hpo
  by_cases hlt:p < s.size
  · have hnx:=fun ty=>Lib.run_next_any_at (P:=Tryz.prog) wr (w.heap.size+2) s p ty hit hlt
    have hit1:=Lib.iterAt_heap wr (w.heap.size+2) s p (p+ (Utf8.decode s p).2) hit
    have hres1:=hres.iterAt (w.heap.size+2) s (p+ (Utf8.decode s p).2) (by omega)
    have hpos1:=hpos.iterAt (w.heap.size+2) s (p+ (Utf8.decode s p).2) (by omega)
    have hb1:=Lib.below_iterAt hb (k:=w.heap.size+2) (by omega) s (p+ (Utf8.decode s p).2)
    have hdn:=decN_pos s p
    have hdl:=decN_le s p hlt
    have hnr:=nextRaw s p line col
    have hbd:=next_bd (rawR s p) line col p (decN s p) hdn ⟨hl0,hl1,hl2,hl3⟩
    have HE':Hid (endP s 0 1 1=endP s (p+decN s p) (nextLine (rawR s p) line) (nextCol (rawR s p) col)):=by
     unfold Hid;rw[HE.out,endP_next s p line col hlt,hnr.1,hnr.2]
    have HBD:=Lib.hid hbd
    obtain⟨c0,c1,f0,f1⟩:=hpos1.facts
    have hltz: (p:Int) < (s.size:Int):=by omega
    have hszw:w.heap.size+2 < (wr.iterAt (w.heap.size+2) s (p+ (Utf8.decode s p).2)).heap.size:=(Array.getElem?_eq_some_iff.1 hit1).1
    have HX:=Lib.hid (And.intro hit1 (And.intro hres1 (And.intro hpos1 (And.intro hb1 hszw))))
    clear hit hres hpos hb hit1 hres1 hpos1 hb1 hszw hnr hbd HE
    go_wp2_with fail
    refine(next_any line col _ _ hl0 (by omega) hl2 (by omega)).mono ?_
    rintro e w4 ⟨rfl,hb4⟩
    have hpos4:=HX.out.2.2.1.below hb4 (by have:=HX.out.2.2.2.2;omega)
    have hres4:=HX.out.2.1.below hb4 (by have:=HX.out.2.2.2.2;omega)
    have hit4:=(hb4.block _ HX.out.2.2.2.2).trans HX.out.1
    have hlow4:=HX.out.2.2.2.1.trans (hb4.mono (by have:=HX.out.2.2.2.2;omega))
    obtain⟨a0,a1,b0,b1⟩:=hpos4.facts
    have hit5: ((w4.setCell ⟨w.heap.size+1,0,none⟩ (.int .i64 (nextLine (rawR s p) line))).setCell ⟨w.heap.size+1,1,none⟩ (.int .i64 (nextCol (rawR s p) col))).heap[w.heap.size+2]?=some (.stringIter s (p+decN s p)):=by
     rw[Below.heap_setCell _ _ _ _ (by show w.heap.size+2≠w.heap.size+1;omega),Below.heap_setCell _ _ _ _ (by show w.heap.size+2≠w.heap.size+1;omega)];exact hit4
    have hres5:PosAt ((w4.setCell ⟨w.heap.size+1,0,none⟩ (.int .i64 (nextLine (rawR s p) line))).setCell ⟨w.heap.size+1,1,none⟩ (.int .i64 (nextCol (rawR s p) col))) w.heap.size 26 0 0:=by
     unfold PosAt
     rw[Below.heap_setCell _ _ _ _ (by show w.heap.size≠w.heap.size+1;omega),Below.heap_setCell _ _ _ _ (by show w.heap.size≠w.heap.size+1;omega)];exact hres4
    have HY:=Lib.hid (And.intro hit5 (And.intro hres5 (And.intro (hpos4.stored (nextLine (rawR s p) line) (nextCol (rawR s p) col)) ((hlow4.setCell (p:=⟨w.heap.size+1,0,none⟩) (by show w.heap.size≤w.heap.size+1;omega) (.int .i64 (nextLine (rawR s p) line))).setCell (p:=⟨w.heap.size+1,1,none⟩) (by show w.heap.size≤w.heap.size+1;omega) (.int .i64 (nextCol (rawR s p) col))))))
    clear hpos4 hres4 hit4 hlow4 hit5 hres5 hb4
    go_wp2
    go_roundw
    case rel=>exact⟨p+decN s p,_,_,hdl,HBD.out,HY.out.1,HY.out.2.1,HY.out.2.2.1,HY.out.2.2.2,HE'⟩
    case measure=>exact iter_less HY.out.1 HPO.out (by omega) hdl
  · have hnx:=fun ty=>Lib.run_next_end_at (P:=Tryz.prog) wr (w.heap.size+2) s p ty hit hlt
    obtain⟨c0,c1,f0,f1⟩:=hpos.facts
    obtain⟨d0,d1,e0,e1⟩:=hres.facts
    have HF:Hid (endL s=line∧endC s=col):=by
     have h2:=endP_end s p line col hlt
     unfold Hid endL endC;rw[HE.out,h2];exact⟨rfl,rfl⟩
    have h5:=(hres.stored line col).facts
    obtain⟨q0,q1,q2,q3⟩:=h5
    have HB:=Lib.hid ((hb.setCell (p:=⟨w.heap.size,0,none⟩) (Nat.le_refl _) (.int .i64 line)).setCell (p:=⟨w.heap.size,1,none⟩) (Nat.le_refl _) (.int .i64 col))
    clear hit hres hpos hb
    go_wp2
    exact bodyPost_ret (v:=.agg #[.int .i64 line,.int .i64 col]) (by simp[results,Tryz.results31,go_sem,q0,q1]) rfl ⟨by rw[HF.out.1,HF.out.2],HB.out⟩
structure Rd (w:World) (B b:Nat) (s:ByteArray) (L:List Rn) (lv:Value) (i:Nat) (ov:Value) (T:List Tk):Prop where
 blk:w.heap[b]?=some (.cells #[.string s,lv,.int .i64 i,ov] 72 (0,0))
 low:B≤b
 run:w.ownsRow B 96 5 lv L.length (rnFlat .i32 L)
 out:w.ownsRow B 48 5 ov T.length (tkFlat T)
theorem Rd.lt {w:World} {B b:Nat} {s:ByteArray} {L:List Rn} {lv:Value} {i:Nat} {ov:Value} {T:List Tk} (h:Rd w B b s L lv i ov T):b < w.heap.size:=(Array.getElem?_eq_some_iff.1 h.blk).1
theorem Rd.facts {w:World} {B b:Nat} {s:ByteArray} {L:List Rn} {lv:Value} {i:Nat} {ov:Value} {T:List Tk} (h:Rd w B b s L lv i ov T) :
 w.cell? ⟨b,0,none⟩ = some (.string s)∧w.cell? ⟨b,1,none⟩ = some lv∧w.cell? ⟨b,2,none⟩ = some (.int .i64 i)∧w.cell? ⟨b,3,none⟩ = some ov∧w.frozen? ⟨b,2,none⟩ = false∧w.frozen? ⟨b,3,none⟩ = false:=by
 have hb:=h.blk
 refine⟨?_,?_,?_,?_,?_,?_⟩
 · simp[World.cell?,hb]
 · simp[World.cell?,hb]
 · simp[World.cell?,hb]
 · simp[World.cell?,hb]
 · simp[World.frozen?,hb]
 · simp[World.frozen?,hb]
theorem Rd.keep {w w':World} {B b:Nat} {s:ByteArray} {L:List Rn} {lv:Value} {i:Nat} {ov:Value} {T:List Tk} (h:Rd w B b s L lv i ov T) (hb:Below w.heap.size w w'):Rd w' B b s L lv i ov T:=
 ⟨(hb.block b h.lt).trans h.blk,h.low,owns_below h.run hb,owns_below h.out hb⟩
theorem Rd.rune {w:World} {B b:Nat} {s:ByteArray} {L:List Rn} {lv:Value} {i:Nat} {ov:Value} {T:List Tk} (h:Rd w B b s L lv i ov T) {j:Nat} {x:Rn} (hj:L[j]?=some x) :
 ∃ g cap,lv=.slice (some ⟨g,0,none⟩) L.length cap∧w.cell? ⟨g,j * 5,none⟩ = some (.int .i32 x.r)∧w.cell? ⟨g,j * 5+1,none⟩ = some (.int .i64 x.fr)∧w.cell? ⟨g,j * 5+2,none⟩ = some (.int .i64 x.to)∧
  w.cell? ⟨g,j * 5+3,none⟩ = some (.int .i64 x.line)∧w.cell? ⟨g,j * 5+4,none⟩ = some (.int .i64 x.col):=by
 have hjl:=(List.getElem?_eq_some_iff.1 hj).1
 have hr:=h.run
 obtain⟨g,cap,rfl,hg,hgs⟩:=owns_shape hr (by omega)
 exact⟨g,cap,rfl,(World.ownsRow.cellAt hr (j * 5) (by omega)).trans (rnFlat_get .i32 _ j 0 x hj (by omega)),(World.ownsRow.cellAt hr (j * 5+1) (by omega)).trans (rnFlat_get .i32 _ j 1 x hj (by omega)),
  (World.ownsRow.cellAt hr (j * 5+2) (by omega)).trans (rnFlat_get .i32 _ j 2 x hj (by omega)),(World.ownsRow.cellAt hr (j * 5+3) (by omega)).trans (rnFlat_get .i32 _ j 3 x hj (by omega)),(World.ownsRow.cellAt hr (j * 5+4) (by omega)).trans (rnFlat_get .i32 _ j 4 x hj (by omega))⟩
theorem rune_any {w:World} {B b:Nat} {s:ByteArray} {L:List Rn} {lv:Value} {i:Nat} {ov:Value} {T:List Tk} (h:Rd w B b s L lv i ov T) (n:Nat) (hL:L.length≤16385) (hi:i≤16385) (hn:n≤16385) :
 Calls Tryz.prog 52 #[.pointer (some ⟨b,0,none⟩),.int .i64 n] w fun e w'=>e=.returned (.int .i32 (rAt L (i+n)))∧Below w.heap.size w w':=by
 obtain⟨c0,c1,c2,c3,f2,f3⟩:=h.facts
 by_cases hlt:i+n < L.length
 · obtain⟨x,hx⟩:∃ x,L[i+n]?=some x:=⟨_,List.getElem?_eq_getElem hlt⟩
   have HA:=Lh (rAt_some hx)
   obtain⟨g,cap,rfl,d0,d1,d2,d3,d4⟩:=h.rune hx
   have hz1: (i:Int)+n < (L.length:Int):=by omega
   have hz0: (0:Int)≤(i:Int)+n:=by omega
   have ht: ((i:Int)+ (n:Int)).toNat=i+n:=by omega
   clear h hx d1 d2 d3 d4 c0 c3 f2 f3
   go_enter Tryz.func52,Tryz.ntmps52
   go_wp2
   go_quiet (fail)
   go_wp2
   go_quiet (fail)
   go_wp2
   go_ret
   exact⟨by rw[HA.out];rfl,below_drewN (below_drewN (Below.refl _ _) _) _⟩
 · have HA:=Lh (rAt_none (L:=L) (i:=i+n) (by omega))
   obtain⟨ad,cap,rfl⟩:=owns_len h.run
   have hz1:¬(i:Int)+n < (L.length:Int):=by omega
   clear h c0 c3 f2 f3
   go_enter Tryz.func52,Tryz.ntmps52
   go_wp2
   go_quiet (fail)
   go_wp2
   go_ret
   exact⟨by rw[HA.out];rfl,below_drewN (Below.refl _ _) _⟩
theorem smallB_any (c:Int) (w:World):Calls Tryz.prog 80 #[.int .i32 c] w fun e w'=>e=.returned (.bool (smallB c))∧w=w':=by
 have H:Hid (smallB c=decide (97≤c∧c≤122)):=rfl
 rcases(show c < 97∨(97≤c∧c≤122)∨122 < c by omega) with h| ⟨h,h'⟩ | h
 all_goals
  go_enter Tryz.func80,Tryz.ntmps80
  go_wp2
  go_ret
  exact⟨ret_bool (by rw[H.out];simp;try omega),rfl⟩
theorem greatB_any (c:Int) (w:World):Calls Tryz.prog 81 #[.int .i32 c] w fun e w'=>e=.returned (.bool (greatB c))∧w=w':=by
 have H:Hid (greatB c=decide (65≤c∧c≤90)):=rfl
 rcases(show c < 65∨(65≤c∧c≤90)∨90 < c by omega) with h| ⟨h,h'⟩ | h
 all_goals
  go_enter Tryz.func81,Tryz.ntmps81
  go_wp2
  go_ret
  exact⟨ret_bool (by rw[H.out];simp;try omega),rfl⟩
theorem digitB_any (c:Int) (w:World):Calls Tryz.prog 58 #[.int .i32 c] w fun e w'=>e=.returned (.bool (digitB c))∧w=w':=by
 have H:Hid (digitB c=decide (48≤c∧c≤57)):=rfl
 rcases(show c < 48∨(48≤c∧c≤57)∨57 < c by omega) with h| ⟨h,h'⟩ | h
 all_goals
  go_enter Tryz.func58,Tryz.ntmps58
  go_wp2
  go_ret
  exact⟨ret_bool (by rw[H.out];simp;try omega),rfl⟩
theorem blankB_any (c:Int) (w:World):Calls Tryz.prog 53 #[.int .i32 c] w fun e w'=>e=.returned (.bool (blankB c))∧w=w':=by
 rcases(show c=32∨c=9∨c=10∨c=13∨(c≠32∧c≠9∧c≠10∧c≠13) by omega) with rfl|rfl|rfl|rfl| ⟨h1,h2,h3,h4⟩
 · have H:Hid (blankB 32=true):=rfl
   go_enter Tryz.func53,Tryz.ntmps53
   go_wp2
   go_ret
   exact⟨ret_bool H.out.symm,rfl⟩
 · have H:Hid (blankB 9=true):=rfl
   go_enter Tryz.func53,Tryz.ntmps53
   go_wp2
   go_ret
   exact⟨ret_bool H.out.symm,rfl⟩
 · have H:Hid (blankB 10=true):=rfl
   go_enter Tryz.func53,Tryz.ntmps53
   go_wp2
   go_ret
   exact⟨ret_bool H.out.symm,rfl⟩
 · have H:Hid (blankB 13=true):=rfl
   go_enter Tryz.func53,Tryz.ntmps53
   go_wp2
   go_ret
   exact⟨ret_bool H.out.symm,rfl⟩
 · have H:Hid (blankB c=false):=by unfold Hid blankB;simp[h1,h2,h3,h4]
   have e1: (c == 32)=false:=by simp[h1]
   have e2: (c == 9)=false:=by simp[h2]
   have e3: (c == 10)=false:=by simp[h3]
   have e4: (c == 13)=false:=by simp[h4]
   clear h1 h2 h3 h4
   go_enter Tryz.func53,Tryz.ntmps53
   go_wp2
   go_ret
   exact⟨ret_bool H.out.symm,rfl⟩
theorem letterB_any (c:Int) (w:World):Calls Tryz.prog 56 #[.int .i32 c] w fun e w'=>e=.returned (.bool (letterB c))∧w=w':=by
 have H:Hid (letterB c= (smallB c || greatB c)):=rfl
 cases h1:smallB c
 · have H1:=Lh h1;clear h1
   go_enter Tryz.func56,Tryz.ntmps56
   go_wp2_with fail
   refine(smallB_any c _).mono ?_
   rintro e w' ⟨rfl,rfl⟩
   rw[H1.out]
   go_wp2_with fail
   refine(greatB_any c _).mono ?_
   rintro e w' ⟨rfl,rfl⟩
   go_wp2
   go_ret
   exact⟨ret_bool (by rw[H.out,H1.out];simp),rfl⟩
 · have H1:=Lh h1;clear h1
   go_enter Tryz.func56,Tryz.ntmps56
   go_wp2_with fail
   refine(smallB_any c _).mono ?_
   rintro e w' ⟨rfl,rfl⟩
   rw[H1.out]
   go_wp2
   go_ret
   exact⟨ret_bool (by rw[H.out,H1.out];simp),rfl⟩
theorem innerB_any (c:Int) (w:World):Calls Tryz.prog 83 #[.int .i32 c] w fun e w'=>e=.returned (.bool (innerB c))∧w=w':=by
 have H:Hid (innerB c= (letterB c || (digitB c || decide (c=95)))):=rfl
 cases h1:letterB c
 · have H1:=Lh h1;clear h1
   cases h2:digitB c
   · have H2:=Lh h2;clear h2
     go_enter Tryz.func83,Tryz.ntmps83
     go_wp2_with fail
     refine(letterB_any c _).mono ?_
     rintro e w' ⟨rfl,rfl⟩
     rw[H1.out]
     go_wp2_with fail
     refine(digitB_any c _).mono ?_
     rintro e w' ⟨rfl,rfl⟩
     rw[H2.out]
     go_wp2
     go_ret
     exact⟨ret_bool (by rw[H.out,H1.out,H2.out];simp;rfl),rfl⟩
   · have H2:=Lh h2;clear h2
     go_enter Tryz.func83,Tryz.ntmps83
     go_wp2_with fail
     refine(letterB_any c _).mono ?_
     rintro e w' ⟨rfl,rfl⟩
     rw[H1.out]
     go_wp2_with fail
     refine(digitB_any c _).mono ?_
     rintro e w' ⟨rfl,rfl⟩
     rw[H2.out]
     go_wp2
     go_ret
     exact⟨ret_bool (by rw[H.out,H1.out,H2.out];simp),rfl⟩
 · have H1:=Lh h1;clear h1
   go_enter Tryz.func83,Tryz.ntmps83
   go_wp2_with fail
   refine(letterB_any c _).mono ?_
   rintro e w' ⟨rfl,rfl⟩
   rw[H1.out]
   go_wp2
   go_ret
   exact⟨ret_bool (by rw[H.out,H1.out];simp),rfl⟩
theorem row_innerB {w:World} {B b:Nat} {s:ByteArray} {L:List Rn} {lv:Value} {i:Nat} {ov:Value} {T:List Tk} (h:Rd w B b s L lv i ov T) (n:Nat) (hL:L.length≤16385) (hi:i≤L.length) (hn:n≤1) :
 Calls Tryz.prog 82 #[.pointer (some ⟨b,0,none⟩),.int .i64 n,.func (.func 83) #[] #[]] w fun e w'=>e=.returned (.int .i64 (rowE innerB L (i+n) - i:Nat))∧Below w.heap.size w w':=by
 have HR:=Lh h
 clear h
 go_enter Tryz.func82,Tryz.ntmps82
 go_wp2
 go_loopw [1] (fun m wr=>∃ (k:Nat),k≤16385∧k≤L.length - i+1∧m=.int .i64 k∧Below w.heap.size w wr∧Hid (rowE innerB L (i+n)=rowE innerB L (i+k))) (fun m _=>L.length - i+1 - (intOf m).toNat)
 case atStart=>exact⟨n,by omega,by omega,rfl,Below.refl _ _,rfl⟩
 case round=>
  obtain⟨k,hk,hk2,rfl,hb,HE⟩:=hrel
  have HR2:=Lh (HR.out.keep hb)
  have HB:=Lh hb
  clear hb
  cases hq:innerB (rAt L (i+k))
  · have HQ:=Lh hq
    have HF:Hid (rowE innerB L (i+n) - i=k):=by unfold Hid;rw[HE.out,rowE_no _ _ _ hq];omega
    clear hq
    go_wp2_with fail
    refine(rune_any HR2.out k hL (by omega) hk).mono ?_
    rintro e w1 ⟨rfl,hb1⟩
    have HB1:=Lh (HB.out.trans (hb1.mono HB.out.size));clear hb1
    go_wp2_with fail
    refine(innerB_any _ _).mono ?_
    rintro e w' ⟨rfl,rfl⟩
    rw[HQ.out]
    go_wp2
    go_ret
    exact⟨ret_int (by rw[HF.out]),HB1.out⟩
  · have HQ:=Lh hq
    have hlt:i+k < L.length:=by
     by_cases hc:i+k < L.length
     · exact hc
     · rw[rAt_none (by omega)] at hq;exact absurd hq (by decide)
    have HE2:Hid (rowE innerB L (i+n)=rowE innerB L (i+ (k+1))):=by unfold Hid;rw[HE.out,rowE_yes _ (by decide) _ _ hq];rfl
    clear hq
    go_wp2_with fail
    refine(rune_any HR2.out k hL (by omega) hk).mono ?_
    rintro e w1 ⟨rfl,hb1⟩
    have HB1:=Lh (HB.out.trans (hb1.mono HB.out.size));clear hb1
    go_wp2_with fail
    refine(innerB_any _ _).mono ?_
    rintro e w' ⟨rfl,rfl⟩
    rw[HQ.out]
    go_wp2
    go_roundw
    case rel=>exact⟨k+1,by omega,by omega,by go_num,HB1.out,HE2⟩
    case measure=>simp[intOf];omega
theorem row_digitB {w:World} {B b:Nat} {s:ByteArray} {L:List Rn} {lv:Value} {i:Nat} {ov:Value} {T:List Tk} (h:Rd w B b s L lv i ov T) (n:Nat) (hL:L.length≤16385) (hi:i≤L.length) (hn:n≤1) :
 Calls Tryz.prog 82 #[.pointer (some ⟨b,0,none⟩),.int .i64 n,.func (.func 58) #[] #[]] w fun e w'=>e=.returned (.int .i64 (rowE digitB L (i+n) - i:Nat))∧Below w.heap.size w w':=by
 have HR:=Lh h
 clear h
 go_enter Tryz.func82,Tryz.ntmps82
 go_wp2
 go_loopw [1] (fun m wr=>∃ (k:Nat),k≤16385∧k≤L.length - i+1∧m=.int .i64 k∧Below w.heap.size w wr∧Hid (rowE digitB L (i+n)=rowE digitB L (i+k))) (fun m _=>L.length - i+1 - (intOf m).toNat)
 case atStart=>exact⟨n,by omega,by omega,rfl,Below.refl _ _,rfl⟩
 case round=>
  obtain⟨k,hk,hk2,rfl,hb,HE⟩:=hrel
  have HR2:=Lh (HR.out.keep hb)
  have HB:=Lh hb
  clear hb
  cases hq:digitB (rAt L (i+k))
  · have HQ:=Lh hq
    have HF:Hid (rowE digitB L (i+n) - i=k):=by unfold Hid;rw[HE.out,rowE_no _ _ _ hq];omega
    clear hq
    go_wp2_with fail
    refine(rune_any HR2.out k hL (by omega) hk).mono ?_
    rintro e w1 ⟨rfl,hb1⟩
    have HB1:=Lh (HB.out.trans (hb1.mono HB.out.size));clear hb1
    go_wp2_with fail
    refine(digitB_any _ _).mono ?_
    rintro e w' ⟨rfl,rfl⟩
    rw[HQ.out]
    go_wp2
    go_ret
    exact⟨ret_int (by rw[HF.out]),HB1.out⟩
  · have HQ:=Lh hq
    have hlt:i+k < L.length:=by
     by_cases hc:i+k < L.length
     · exact hc
     · rw[rAt_none (by omega)] at hq;exact absurd hq (by decide)
    have HE2:Hid (rowE digitB L (i+n)=rowE digitB L (i+ (k+1))):=by unfold Hid;rw[HE.out,rowE_yes _ (by decide) _ _ hq];rfl
    clear hq
    go_wp2_with fail
    refine(rune_any HR2.out k hL (by omega) hk).mono ?_
    rintro e w1 ⟨rfl,hb1⟩
    have HB1:=Lh (HB.out.trans (hb1.mono HB.out.size));clear hb1
    go_wp2_with fail
    refine(digitB_any _ _).mono ?_
    rintro e w' ⟨rfl,rfl⟩
    rw[HQ.out]
    go_wp2
    go_roundw
    case rel=>exact⟨k+1,by omega,by omega,by go_num,HB1.out,HE2⟩
    case measure=>simp[intOf];omega
theorem fault_any {w:World} {B b:Nat} {s:ByteArray} {L:List Rn} {lv:Value} {i:Nat} {ov:Value} {T:List Tk} (h:Rd w B b s L lv i ov T) (er:Int) (x:Rn) (hx:L[i]?=some x) (_hL:L.length≤16385) :
 Calls Tryz.prog 76 #[.pointer (some ⟨b,0,none⟩),.int .i64 er] w fun e w'=>e=.returned (.agg #[.int .i64 er,.int .i64 x.line,.int .i64 x.col])∧Below w.heap.size w w':=by
 have hi:=(List.getElem?_eq_some_iff.1 hx).1
 obtain⟨c0,c1,c2,c3,f2,f3⟩:=h.facts
 obtain⟨g,cap,rfl,d0,d1,d2,d3,d4⟩:=h.rune hx
 have hbl:=h.lt
 have hgl:=World.block_lt_of_cell? w _ d0
 have hiz: (i:Int) < (L.length:Int):=by omega
 clear h hx d0 d1 d2 c0 c3 f2 f3
 go_enter Tryz.func76,Tryz.ntmps76
 go_wp2
 go_region_held3 (fun w'=>w'.cell? ⟨b,1,none⟩ = some (.slice (some ⟨g,0,none⟩) L.length cap)∧w'.cell? ⟨b,2,none⟩ = some (.int .i64 i)∧w'.cell? ⟨g,i * 5+3,none⟩ = some (.int .i64 x.line)∧w'.cell? ⟨g,i * 5+4,none⟩ = some (.int .i64 x.col))
  (first|go_keep)
  (first|fail)
 go_wp2
 exact bodyPost_ret (v:=.agg #[.int .i64 er,.int .i64 x.line,.int .i64 x.col]) (by simp[results,Tryz.results76,go_sem]) rfl ⟨rfl,((Below.refl _ _).alloc (Nat.le_refl _) _).drew⟩
theorem info_token: (Tryz.prog.info? 48).map (fun i=>(i.zero,i.size,i.bytes))=some (some (.agg #[.int .i64 0,.string ⟨#[]⟩,.int .i64 0,.int .i64 0,.int .i64 0]),5,48):=by kernel_rfl
theorem owns_ne_block {w:World} {base:Nat} {e t:TypeId} {sz:Nat} {v:Value} {n k:Nat} {xs:List Value} {cs:Array Value} {fr:Nat × Nat} (h:w.ownsRow base e sz v n xs) (hk:w.heap[k]?=some (.cells cs t fr)) (hne:t≠e):v.ownBlock≠some k:=by
 rcases h.2 with⟨rfl,_⟩ | ⟨g,cap,cur,rfl,_,hg,_⟩
 · simp[Value.ownBlock]
 · intro hgk
   simp[Value.ownBlock] at hgk
   subst hgk
   rw[hk] at hg
   simp at hg
   exact hne hg.2.1
theorem heap_far2 {w w3:World} {o1 o2:Obj} {row:Option Nat} {b:Nat} (hg: (((w.alloc o1).drew.drew).alloc o2).grownBy w3 row) (hb:b < w.heap.size) (hne:row≠some b):w3.heap[b]?=w.heap[b]?:=by
 rw[hg.block b (by simp;omega) (Ne.symm hne)]
 exact(Below.heap_alloc _ _ _ (by show b < (w.alloc o1).heap.size;simp;omega)).trans (Below.heap_alloc _ _ _ hb)
theorem cell_far2 {w w3:World} {o1 o2:Obj} {row:Option Nat} {b j:Nat} {v:Value} (hg: (((w.alloc o1).drew.drew).alloc o2).grownBy w3 row) (hb:b < w.heap.size) (hne:row≠some b) (h:w.cell? ⟨b,j,none⟩ = some v):w3.cell? ⟨b,j,none⟩ = some v:=
 (World.cell?_of_block (a:=⟨b,j,none⟩) (heap_far2 hg hb hne)).trans h
theorem frozen_far2 {w w3:World} {o1 o2:Obj} {row:Option Nat} {b j:Nat} {v:Bool} (hg: (((w.alloc o1).drew.drew).alloc o2).grownBy w3 row) (hb:b < w.heap.size) (hne:row≠some b) (h:w.frozen? ⟨b,j,none⟩ = v):w3.frozen? ⟨b,j,none⟩ = v:=
 (World.frozen?_of_block (a:=⟨b,j,none⟩) (heap_far2 hg hb hne)).trans h
theorem heap_new2 {w w3:World} {o1 o2:Obj} {row:Option Nat} (hg: (((w.alloc o1).drew.drew).alloc o2).grownBy w3 row) (hne:row≠some w.heap.size):w3.heap[w.heap.size]?=some o1:=by
 rw[hg.block w.heap.size (by simp;omega) (Ne.symm hne)]
 exact(Below.heap_alloc _ _ _ (by show w.heap.size < (w.alloc o1).heap.size;simp)).trans (heap_alloc_new w o1)
theorem cell_new2 {w w3:World} {cs:Array Value} {t:TypeId} {o2:Obj} {row:Option Nat} {j:Nat} (hg: (((w.alloc (.cells cs t)).drew.drew).alloc o2).grownBy w3 row) (hne:row≠some w.heap.size):w3.cell? ⟨w.heap.size,j,none⟩ = cs[j]?:=
 cell_of_row _ _ _ _ _ _ (heap_new2 hg hne)
theorem owns_ne_row {w:World} {b1 b2:Nat} {e1 e2:TypeId} {s1 s2:Nat} {v1:Value} {n1 n2 g cap:Nat} {xs1 xs2:List Value} (h1:w.ownsRow b1 e1 s1 v1 n1 xs1) (h2:w.ownsRow b2 e2 s2 (.slice (some ⟨g,0,none⟩) n2 cap) n2 xs2) (hne:e2≠e1):v1.ownBlock≠some g:=by
 rcases h2.2 with⟨h,_⟩ | ⟨g',cap',cur,hv,_,hg,_⟩
 · simp at h
 · simp only[Value.slice.injEq,Option.some.injEq,Addr.mk.injEq,true_and,and_true] at hv
   obtain⟨rfl,_⟩:=hv
   exact owns_ne_block h1 hg hne
structure Took (w w':World) (B b:Nat) (s:ByteArray) (L:List Rn) (lv:Value) (i:Nat) (ov:Value) (T:List Tk):Prop where
 rd:Rd w' B b s L lv i ov T
 low:Below B w w'
 kept:Lib.OthersKept 48 (some b) w w'
theorem Took.drewN {w w':World} {B b:Nat} {s:ByteArray} {L:List Rn} {lv:Value} {i:Nat} {ov:Value} {T:List Tk} (h:Took w w' B b s L lv i ov T) (n:Nat):Took w (w'.drewN n) B b s L lv i ov T:=
 ⟨⟨h.rd.blk,h.rd.low,h.rd.run,h.rd.out⟩,below_drewN h.low n,h.kept⟩
theorem Rd.took {w w3:World} {B b g3 cap3:Nat} {s:ByteArray} {L:List Rn} {lv:Value} {i j:Nat} {ov:Value} {T:List Tk} {o1:Obj} {cs2:Array Value} (x:Tk) (h:Rd w B b s L lv i ov T)
 (hg: (((w.alloc o1).drew.drew).alloc (.cells cs2 48)).grownBy w3 ov.ownBlock) (hB:B≤w.heap.size) (hat:ov.ownBlock=some g3∨g3=w.heap.size+2)
 (hown3:w3.ownsRow B 48 5 (.slice (some ⟨g3,0,none⟩) (T.length+1) cap3) (T.length+1) (tkFlat T ++tkCells x)) :
 Took w ((w3.setCell ⟨b,3,none⟩ (.slice (some ⟨g3,0,none⟩) (T.length+1) cap3)).setCell ⟨b,2,none⟩ (.int .i64 j)) B b s L lv j (.slice (some ⟨g3,0,none⟩) (T.length+1) cap3) (T ++ [x]):=by
 have hbl:=h.lt
 have hne:=owns_ne_block h.out h.blk (by decide)
 have hb3:w3.heap[b]?=_:=(heap_far2 hg hbl hne).trans h.blk
 have hg3b:g3≠b:=by
  rcases hat with e|e
  · intro e';exact hne (by rw[e,e'])
  · omega
 have h4:=heap_setCell_same w3 b 3 _ _ (.slice (some ⟨g3,0,none⟩) (T.length+1) cap3) hb3
 have h5:=heap_setCell_same _ b 2 _ _ (.int .i64 j) h4
 have hrow:∀ k,ov.ownBlock=some k→B≤k:=fun k e=>(h.out.lt k e).1
 have lowA:Below B w (((w.alloc o1).drew.drew).alloc (.cells cs2 48)):=(((Below.refl B w).alloc hB o1).drew.drew).alloc (by simp;omega) _
 have low3:Below B w w3:=lowA.grown hg (by simp;omega) hrow
 have kept3:∀ k,k < w.heap.size→ov.ownBlock≠some k→w3.heap[k]?=w.heap[k]?:=fun k hk hne'=>heap_far2 hg hk hne'
 have run3:w3.ownsRow B 96 5 lv L.length (rnFlat .i32 L):=by
  refine⟨h.run.1,?_⟩
  rcases h.run.2 with hn| ⟨g,cap,cur,hv,hBg,hgg,r⟩
  · exact .inl hn
  · exact .inr ⟨g,cap,cur,hv,hBg,(kept3 g (Array.getElem?_eq_some_iff.1 hgg).1 (owns_ne_block h.out hgg (by decide))).trans hgg,r⟩
 have other:∀ (e:TypeId) (sz:Nat) (v:Value) (n:Nat) (xs:List Value) (W:World) (j:Nat) (u:Value),e≠72→(∃ cs t,W.heap[b]?=some (.cells cs t (0,0))∧t=72)→W.ownsRow B e sz v n xs→(W.setCell ⟨b,j,none⟩ u).ownsRow B e sz v n xs:=by
  intro e sz v n xs W j u he hWb ho
  obtain⟨cs,t,hWb,rfl⟩:=hWb
  have hnb:=owns_ne_block ho hWb (Ne.symm he)
  refine⟨ho.1,?_⟩
  rcases ho.2 with hn| ⟨g,cap,cur,hv,hBg,hgg,r⟩
  · exact .inl hn
  · exact .inr ⟨g,cap,cur,hv,hBg,(Below.heap_setCell _ _ _ _ (by show g≠b;intro e';exact hnb (by rw[hv,e'];rfl))).trans hgg,r⟩
 refine⟨⟨?_,h.low,?_,?_⟩,?_,?_⟩
 · simpa using h5
 · exact other _ _ _ _ _ _ _ _ (by decide) ⟨_,_,h4,rfl⟩ (other _ _ _ _ _ _ _ _ (by decide) ⟨_,_,hb3,rfl⟩ run3)
 · rw[tkFlat_snoc,List.length_append]
   exact other _ _ _ _ _ _ _ _ (by decide) ⟨_,_,h4,rfl⟩ (other _ _ _ _ _ _ _ _ (by decide) ⟨_,_,hb3,rfl⟩ hown3)
 · exact(low3.setCell (p:=⟨b,3,none⟩) h.low _).setCell (p:=⟨b,2,none⟩) h.low _
 · intro k o hk hkb hko
   have hk1:=(Array.getElem?_eq_some_iff.1 hk).1
   have hkb':k≠b:=fun e=>hkb (by rw[e])
   have hkr:ov.ownBlock≠some k:=by
    intro e
    rcases h.out.2 with⟨rfl,_⟩ | ⟨g,cap,cur,rfl,_,hgg,_⟩
    · simp[Value.ownBlock] at e
    · simp[Value.ownBlock] at e
      subst e
      rw[hk] at hgg
      exact hko _ _ (Option.some.inj hgg)
   rw[Below.heap_setCell _ _ _ _ (by show k≠b;exact hkb'),Below.heap_setCell _ _ _ _ (by show k≠b;exact hkb'),kept3 k hk1 hkr]
   exact hk
def ldOut:Op:=Op.load 33 (Operand.tmp 21)
theorem ldOut_is:Op.load 33 (Operand.tmp 21)=ldOut:=rfl
attribute [local go_sem] ldOut
theorem take_any {w:World} {B b:Nat} {s:ByteArray} {L:List Rn} {lv:Value} {i:Nat} {ov:Value} {T:List Tk} (h:Rd w B b s L lv i ov T) (kind:Int) (n:Nat) (x y:Rn) (hx:L[i]?=some x) (hy:L[i+ (n - 1)]?=some y) (hn:1≤n) (hL:L.length≤16385) (hT:T.length≤100000)
 (hxy:x.fr≤y.to) (hys:y.to≤s.size) (hB:B≤w.heap.size) :
 Calls Tryz.prog 78 #[.pointer (some ⟨b,0,none⟩),.int .i64 kind,.int .i64 n] w fun e w'=>∃ g3 cap3,e=.returned (.pointer (some ⟨g3,T.length * 5,none⟩))∧
  Took w w' B b s L lv (i+n) (.slice (some ⟨g3,0,none⟩) (T.length+1) cap3) (T ++ [⟨kind,s.extract x.fr y.to,0,x.line,x.col⟩]):=by
 have hi:=(List.getElem?_eq_some_iff.1 hx).1
 have hj:=(List.getElem?_eq_some_iff.1 hy).1
 obtain⟨c0,c1,c2,c3,f2,f3⟩:=h.facts
 obtain⟨g,cap,rfl,d0,d1,d2,d3,d4⟩:=h.rune hx
 obtain⟨g',cap',hv,_,_,e2,_,_⟩:=h.rune hy
 simp only[Value.slice.injEq,Option.some.injEq,Addr.mk.injEq,true_and,and_true] at hv
 obtain⟨rfl,rfl⟩:=hv
 have hbl:=h.lt
 have hgl:=World.block_lt_of_cell? w _ d0
 have hiz: (i:Int) < (L.length:Int):=by omega
 have hjz: (i:Int)+n - 1 < (L.length:Int):=by omega
 have hjz0: (0:Int)≤(i:Int)+n - 1:=by omega
 have hjt: ((i:Int)+ (n:Int) - 1).toNat=i+ (n - 1):=by omega
 have hw1:IntKind.i64.wrap ((i:Int)+ (n:Int))= (i:Int)+n:=IntWalk.i64_in _ (by omega)
 have hw2:IntKind.i64.wrap ((i:Int)+ (n:Int) - 1)= (i:Int)+n - 1:=IntWalk.i64_in _ (by omega)
 have hq1: (1:Int)≤(i:Int)+n:=by omega
 have hxz: (x.fr:Int)≤(y.to:Int):=by omega
 have hyz: (y.to:Int)≤(s.size:Int):=by omega
 have hfz:¬(y.to:Int) < (x.fr:Int):=by omega
 have HOUT:=Lh h.out
 have hlow:=h.low
 have HNE:=Lh (owns_ne_block h.out h.blk (by decide))
 have HNG:=Lh (owns_ne_row h.out h.run (by decide))
 have HNW:Hid (ov.ownBlock≠some w.heap.size):=fun e=>by have:=(h.out.lt _ e).2;omega
 have hgb:g≠b:=fun e=>absurd (owns_ne_block h.run h.blk (by decide)) (by simp[Value.ownBlock,e])
 have HC3:=Lh (And.intro c3 (And.intro c2 (And.intro f3 f2)))
 obtain⟨i0,hi0,hz0,hz1,hz2⟩:=info_parts info_token
 have HIP:=Lh (And.intro hi0 (And.intro hz0 (And.intro hz1 hz2)))
 have HRD:=Lh h
 clear hi0 hz0 hz1 hz2 hx hy h
 go_enter Tryz.func78,Tryz.ntmps78
 go_wp2
 go_region_held3 (fun w'=>w'.cell? ⟨b,1,none⟩ = some (.slice (some ⟨g,0,none⟩) L.length cap)∧w'.cell? ⟨b,2,none⟩ = some (.int .i64 i)∧w'.cell? ⟨g,i * 5,none⟩ = some (.int .i32 x.r)∧w'.cell? ⟨g,i * 5+1,none⟩ = some (.int .i64 x.fr)∧w'.cell? ⟨g,i * 5+2,none⟩ = some (.int .i64 x.to)∧w'.cell? ⟨g,i * 5+3,none⟩ = some (.int .i64 x.line)∧w'.cell? ⟨g,i * 5+4,none⟩ = some (.int .i64 x.col))
  (first|go_keep)
  (first|fail)
 go_wp2
 clear hi hj
 rw[ldOut_is]
 go_region_held3 (fun w'=>w'.cell? ⟨b,0,none⟩ = some (.string s)∧w'.cell? ⟨b,1,none⟩ = some (.slice (some ⟨g,0,none⟩) L.length cap)∧w'.cell? ⟨b,2,none⟩ = some (.int .i64 i)∧w'.cell? ⟨g,(i+ (n - 1)) * 5+2,none⟩ = some (.int .i64 y.to)∧w'.cell? ⟨w.heap.size,1,none⟩ = some (.int .i64 x.fr)∧w'.cell? ⟨w.heap.size,3,none⟩ = some (.int .i64 x.line)∧w'.cell? ⟨w.heap.size,4,none⟩ = some (.int .i64 x.col))
  (first|go_keep| (refine⟨?_,?_,?_,?_,?_,?_,?_⟩ <;> (first|assumption|go_keep| (rw[World.cell?_setCell_other _ _ _ _ (by first| (simp;done)| (simp;omega))];assumption))))
  ((refine step_append_lies _ (by rfl) _ _ _ (by rfl) B 48 i0 _ 5 48 Tryz.underlying33 HIP.out.1 HIP.out.2.1 HIP.out.2.2.1 HIP.out.2.2.2 rfl (by omega) ov T.length (tkFlat T) (by rfl) (World.ownsRow.alloc (World.ownsRow.drew (World.ownsRow.drew (World.ownsRow.alloc HOUT.out _))) _) ⟨w.heap.size+1,0,none⟩ 1 1 [.int .i64 kind,.string (s.extract x.fr y.to),.int .i64 0,.int .i64 x.line,.int .i64 x.col] (by rfl) (by rfl) (World.news_of_block (cs:=#[.int .i64 kind,.string (s.extract x.fr y.to),.int .i64 0,.int .i64 x.line,.int .i64 x.col]) (t:=48) (fr:=(0,0)) (by show((w.alloc _).alloc _).heap[w.heap.size+1]?=_;have:=heap_alloc_new (w.alloc (.cells #[.int .i32 x.r,.int .i64 x.fr,.int .i64 x.to,.int .i64 x.line,.int .i64 x.col] 96)) (.cells #[.int .i64 kind,.string (s.extract x.fr y.to),.int .i64 0,.int .i64 x.line,.int .i64 x.col] 48);simpa using this)) (by simp[Value.oneCell']) (by omega) (by unfold maxLen;omega) (by omega) (by simp;omega) (w.heap.size+2) (by simp) ?_;intro g3 cap3 w3 hown3 hgrow hat hlt3;have p3:=cell_far2 hgrow hbl HNE.out HC3.out.1;have p2:=cell_far2 hgrow hbl HNE.out HC3.out.2.1;have p5:=frozen_far2 hgrow hbl HNE.out HC3.out.2.2.1;have p4:=frozen_far2 hgrow hbl HNE.out HC3.out.2.2.2;have p0:=cell_far2 hgrow hbl HNE.out c0;have p1:=cell_far2 hgrow hbl HNE.out c1;have pg:=cell_far2 hgrow hgl HNG.out e2;have n1:=cell_new2 (j:=1) hgrow HNW.out;have n3:=cell_new2 (j:=3) hgrow HNW.out;have n4:=cell_new2 (j:=4) hgrow HNW.out;simp only[List.getElem?_toArray,List.getElem?_cons_zero,List.getElem?_cons_succ] at n1 n3 n4))
 all_goals
  have HTK:=Lh (Rd.took (j:=i+n) ⟨kind,s.extract x.fr y.to,0,x.line,x.col⟩ HRD.out hgrow hB hat hown3)
  clear hgrow hown3 hat n1 n3 n4 pg p0 p1
  go_wp2
  go_quiet (fail)
  go_wp2
  go_ret
  exact⟨g3,cap3,rfl,HTK.out.drewN _⟩
end Go.Proofs.YthlofmnmacpogaaGreatDoor
