/- A part of a proof: 'warder/warderlaw07.DeclOnes' returns true for every input and leaves its arguments as they were; no condition. The row lists package-level variables of Go's library with what they hold at the start; the card ties them to the program's text. -/
import Derived.Test.YthlofmnmacpogaaGreatDoorOn31
namespace Go.Proofs.YthlofmnmacpogaaGreatDoor
open Go.RowKit
set_option maxRecDepth 100000 in
set_option maxHeartbeats 4000000 in
theorem ratom_t0 {w:World} {B:Nat} {lv:Value} {T:List Tk} (h:TkIn w B lv T) (hB:B≤w.heap.size) (i:Int) (hlo:-9223372036854775808≤i) (hhi:i≤1000000) (prop:Bool)
 (hk:idxP trueL (tkAt T i).text=0) :
 Calls Tryz.prog 144 #[lv,.int .i64 i,.bool prop] w (RPost w (.ok [item 1 (tkAt T i)] (i+1))):=by
 obtain⟨x,hx⟩:∃ x,tkAt T i=x:=⟨_,rfl⟩
 rw[hx] at hk
 have HX:=Lib.hid hx;have HK:=Lib.hid hk
 have HTK:Hid (∀ W,Below w.heap.size w W→TkIn W B lv T):=fun W hW=>h.below (hW.mono hB)
 have HB0:=Lib.hid ((Below.refl w.heap.size w).alloc (Nat.le_refl _) (.cells #[.slice none 0 0,.int .i64 0,.int .i64 0,.int .i64 0,.int .i64 0] 117))
 have HQ:=Lib.hid (show PrB (w.alloc (.cells #[.slice none 0 0,.int .i64 0,.int .i64 0,.int .i64 0,.int .i64 0] 117)) w.heap.size (.slice none 0 0) 0 0 0 0 from heap_alloc_new w _)
 rw[hx]
 clear h hx hk
 have hwi:IntKind.i64.wrap (i+1)=i+1:=IntWalk.i64_in _ ⟨by omega,by omega⟩
 go_enter Tryz.func144,Tryz.ntmps144
 go_wp2_with fail
 refine(rctok_any (HTK.out _ HB0.out) i).mono ?_
 rintro e w1 ⟨rfl,hb1⟩
 rw[HX.out]
 unfold tokV
 have hB2:=((HB0.out.trans (hb1.mono HB0.out.size)).alloc (Nat.le_trans HB0.out.size hb1.size) (.cells #[.int .i64 x.kind,.string x.text,.int .i64 x.num,.int .i64 x.line,.int .i64 x.col] 48))
 have HB2:=Lib.hid (hB2.alloc hB2.size (.cells #[.string ⟨#[116,114,117,101]⟩,.string ⟨#[102,97,108,115,101]⟩,.string ⟨#[99,111,109,112,108,101,116,101]⟩,.string ⟨#[115,116,117,99,107]⟩] 9))
 have hq1:=HQ.out.below hb1
 have hl1:=hq1.lt
 have HQ2:=Lib.hid ((hq1.alloc (.cells #[.int .i64 x.kind,.string x.text,.int .i64 x.num,.int .i64 x.line,.int .i64 x.col] 48)).alloc (.cells #[.string ⟨#[116,114,117,101]⟩,.string ⟨#[102,97,108,115,101]⟩,.string ⟨#[99,111,109,112,108,101,116,101]⟩,.string ⟨#[115,116,117,99,107]⟩] 9))
 have HT2:=Lib.hid ((show TkB (w1.alloc (.cells #[.int .i64 x.kind,.string x.text,.int .i64 x.num,.int .i64 x.line,.int .i64 x.col] 48)) w1.heap.size x from heap_alloc_new w1 _).alloc (.cells #[.string ⟨#[116,114,117,101]⟩,.string ⟨#[102,97,108,115,101]⟩,.string ⟨#[99,111,109,112,108,101,116,101]⟩,.string ⟨#[115,116,117,99,107]⟩] 9))
 have HL2:=Lib.hid (show TlB ((w1.alloc (.cells #[.int .i64 x.kind,.string x.text,.int .i64 x.num,.int .i64 x.line,.int .i64 x.col] 48)).alloc (.cells #[.string ⟨#[116,114,117,101]⟩,.string ⟨#[102,97,108,115,101]⟩,.string ⟨#[99,111,109,112,108,101,116,101]⟩,.string ⟨#[115,116,117,99,107]⟩] 9)) (w1.heap.size+1) from heap_at_size _ _ _ (by simp))
 obtain⟨d0,d1,d2,d3,d4⟩:=HT2.out.facts
 clear hb1 hB2 hq1
 go_wp2_with fail
 refine(rcindex_any _ trueL x.text _ HL2.out.reads (by decide)).mono ?_
 rintro e w' ⟨rfl,rfl⟩
 rw[HK.out]
 have HB3:=Lib.hid (HB2.out.alloc HB2.out.size (.cells #[.int .i64 1,.int .i64 2,.int .i64 13,.int .i64 14] 3))
 have HQ3:=Lib.hid (HQ2.out.alloc (.cells #[.int .i64 1,.int .i64 2,.int .i64 13,.int .i64 14] 3))
 have HT3:=Lib.hid (HT2.out.alloc (.cells #[.int .i64 1,.int .i64 2,.int .i64 13,.int .i64 14] 3))
 have hO3: (((w1.alloc (.cells #[.int .i64 x.kind,.string x.text,.int .i64 x.num,.int .i64 x.line,.int .i64 x.col] 48)).alloc (.cells #[.string ⟨#[116,114,117,101]⟩,.string ⟨#[102,97,108,115,101]⟩,.string ⟨#[99,111,109,112,108,101,116,101]⟩,.string ⟨#[115,116,117,99,107]⟩] 9)).alloc (.cells #[.int .i64 1,.int .i64 2,.int .i64 13,.int .i64 14] 3)).heap[w1.heap.size+1+1]?=some (.cells #[.int .i64 1,.int .i64 2,.int .i64 13,.int .i64 14] 3 (0,0)):=heap_at_size _ _ _ (by simp)
 have HO3:=Lib.hid hO3
 clear hO3 d0 d1 d2 d3 d4
 go_wp2
 obtain⟨W3,hW3⟩:∃ W,((w1.alloc (.cells #[.int .i64 x.kind,.string x.text,.int .i64 x.num,.int .i64 x.line,.int .i64 x.col] 48)).alloc (.cells #[.string ⟨#[116,114,117,101]⟩,.string ⟨#[102,97,108,115,101]⟩,.string ⟨#[99,111,109,112,108,101,116,101]⟩,.string ⟨#[115,116,117,99,107]⟩] 9)).alloc (.cells #[.int .i64 1,.int .i64 2,.int .i64 13,.int .i64 14] 3)=W:=⟨_,rfl⟩
 rw[hW3] at HB3 HQ3 HT3 HO3 ⊢
 clear hW3 HB2 HQ2 HT2 HL2
 obtain⟨c0,c1,c2,c3,c4⟩:=HQ3.out.facts
 obtain⟨z0,z1,z2,z3,z4⟩:=HQ3.out.free
 have hlt3:=HQ3.out.lt
 obtain⟨_,_,_,d3,d4⟩:=HT3.out.facts
 have o0:W3.cell? ⟨w1.heap.size+1+1,0,none⟩ = some (.int .i64 1):=by simp[World.cell?,HO3.out]
 have hlo3:=(Array.getElem?_eq_some_iff.1 HO3.out).1
 have n0:W3.drew.cell? ⟨w1.heap.size+1+1,0,none⟩ = some (.int .i64 1):=o0
 have n1:W3.drew.cell? ⟨w1.heap.size,3,none⟩ = some (.int .i64 x.line):=d3
 have n2:W3.drew.cell? ⟨w1.heap.size,4,none⟩ = some (.int .i64 x.col):=d4
 have tk:∀ (g j:Nat) (v:Value),g≠w.heap.size→g < W3.heap.size→W3.cell? ⟨g,j,none⟩ = some v→((((((W3.setCell ⟨w.heap.size,0,none⟩ (.slice (some ⟨W3.heap.size,0,none⟩) 1 1)).setCell ⟨w.heap.size,1,none⟩ (.int .i64 (i+1))).setCell ⟨w.heap.size,2,none⟩ (.int .i64 0)).setCell ⟨w.heap.size,3,none⟩ (.int .i64 0)).setCell ⟨w.heap.size,4,none⟩ (.int .i64 0)).alloc (.cells #[.int .i64 1,.string ⟨#[]⟩,.int .i64 0,.string ⟨#[]⟩,.int .i64 0,.string ⟨#[]⟩,.string ⟨#[]⟩,.int .i64 x.line,.int .i64 x.col] 87)).drew.cell? ⟨g,j,none⟩ = some v:=by
  intro g j v hg hl hc
  exact((((Below.refl _ (((((W3.setCell ⟨w.heap.size,0,none⟩ (.slice (some ⟨W3.heap.size,0,none⟩) 1 1)).setCell ⟨w.heap.size,1,none⟩ (.int .i64 (i+1))).setCell ⟨w.heap.size,2,none⟩ (.int .i64 0)).setCell ⟨w.heap.size,3,none⟩ (.int .i64 0)).setCell ⟨w.heap.size,4,none⟩ (.int .i64 0))).alloc (Nat.le_refl _) (.cells #[.int .i64 1,.string ⟨#[]⟩,.int .i64 0,.string ⟨#[]⟩,.int .i64 0,.string ⟨#[]⟩,.string ⟨#[]⟩,.int .i64 x.line,.int .i64 x.col] 87)).drew).cell (p:=⟨g,j,none⟩) (by simpa only[World.size_setCell] using hl)).trans (cell_tok _ _ _ _ _ hg hc)
 have hltk:=HT3.out.lt
 have t0:=tk _ _ _ (by omega) hlo3 o0;have t1:=tk _ _ _ (by omega) hltk d3;have t2:=tk _ _ _ (by omega) hltk d4
 clear tk
 have fk:∀ (g j:Nat) (v:Value),g < W3.heap.size→W3.cell? ⟨g,j,none⟩ = some v→(W3.alloc (.cells #[.int .i64 1,.string ⟨#[]⟩,.int .i64 0,.string ⟨#[]⟩,.int .i64 0,.string ⟨#[]⟩,.string ⟨#[]⟩,.int .i64 x.line,.int .i64 x.col] 87)).drew.cell? ⟨g,j,none⟩ = some v:=by
  intro g j v hl hc
  exact((((Below.refl _ W3).alloc (Nat.le_refl _) (.cells #[.int .i64 1,.string ⟨#[]⟩,.int .i64 0,.string ⟨#[]⟩,.int .i64 0,.string ⟨#[]⟩,.string ⟨#[]⟩,.int .i64 x.line,.int .i64 x.col] 87)).drew).cell (p:=⟨g,j,none⟩) hl).trans hc
 have f0:=fk _ _ _ hlo3 o0;have f1:=fk _ _ _ hltk d3;have f2:=fk _ _ _ hltk d4
 clear fk
 have hq9:=HQ3.out.stored (.slice (some ⟨W3.heap.size,0,none⟩) 1 1) (i+1) 0 0 0
 have hb9:=below_tok HB3.out (Nat.le_refl _) (.slice (some ⟨W3.heap.size,0,none⟩) 1 1) (.int .i64 (i+1)) (.int .i64 0) (.int .i64 0) (.int .i64 0)
 have HE:=Lib.hid (hq9.alloc (.cells #[.int .i64 1,.string ⟨#[]⟩,.int .i64 0,.string ⟨#[]⟩,.int .i64 0,.string ⟨#[]⟩,.string ⟨#[]⟩,.int .i64 x.line,.int .i64 x.col] 87)).drew.facts
 have HBE:=Lib.hid (hb9.alloc hb9.size (.cells #[.int .i64 1,.string ⟨#[]⟩,.int .i64 0,.string ⟨#[]⟩,.int .i64 0,.string ⟨#[]⟩,.string ⟨#[]⟩,.int .i64 x.line,.int .i64 x.col] 87)).drew
 have hown:=World.ownsRow_lit (e:=87) (size:=9) (((((W3.setCell ⟨w.heap.size,0,none⟩ (.slice (some ⟨W3.heap.size,0,none⟩) 1 1)).setCell ⟨w.heap.size,1,none⟩ (.int .i64 (i+1))).setCell ⟨w.heap.size,2,none⟩ (.int .i64 0)).setCell ⟨w.heap.size,3,none⟩ (.int .i64 0)).setCell ⟨w.heap.size,4,none⟩ (.int .i64 0)) (#[.int .i64 1,.string ⟨#[]⟩,.int .i64 0,.string ⟨#[]⟩,.int .i64 0,.string ⟨#[]⟩,.string ⟨#[]⟩,.int .i64 x.line,.int .i64 x.col]) 1 (Nat.le_refl _) (by decide) rfl
 simp only[World.size_setCell] at hown
 have HOWN:=Lib.hid (owns_mono hown.drew (show w.heap.size≤W3.heap.size by omega))
 clear hown hq9 hb9
 go_region_held3 (fun w'=>w'.cell? ⟨w1.heap.size+1+1,0,none⟩ = some (.int .i64 1)∧w'.cell? ⟨w1.heap.size,3,none⟩ = some (.int .i64 x.line)∧w'.cell? ⟨w1.heap.size,4,none⟩ = some (.int .i64 x.col))
  (first| (with_reducible exact⟨n0,n1,n2⟩)| (with_reducible exact⟨f0,f1,f2⟩)| (with_reducible exact⟨t0,t1,t2⟩)| (trace_state;fail))
  (fail)
 go_wp2
 obtain⟨e0,e1,e2,e3,e4⟩:=HE.out
 refine bodyPost_ret (v:=.agg #[.slice (some ⟨W3.heap.size,0,none⟩) 1 1,.int .i64 (i+1),.int .i64 0,.int .i64 0,.int .i64 0]) (by simp[results,Tryz.results144,go_sem,e0,e1,e2,e3,e4]) rfl ?_
 exact⟨W3.heap.size,1,rfl,HOWN.out,HBE.out⟩
set_option maxRecDepth 100000 in
set_option maxHeartbeats 4000000 in
theorem ratom_t1 {w:World} {B:Nat} {lv:Value} {T:List Tk} (h:TkIn w B lv T) (hB:B≤w.heap.size) (i:Int) (hlo:-9223372036854775808≤i) (hhi:i≤1000000) (prop:Bool)
 (hk:idxP trueL (tkAt T i).text=1) :
 Calls Tryz.prog 144 #[lv,.int .i64 i,.bool prop] w (RPost w (.ok [item 2 (tkAt T i)] (i+1))):=by
 obtain⟨x,hx⟩:∃ x,tkAt T i=x:=⟨_,rfl⟩
 rw[hx] at hk
 have HX:=Lib.hid hx;have HK:=Lib.hid hk
 have HTK:Hid (∀ W,Below w.heap.size w W→TkIn W B lv T):=fun W hW=>h.below (hW.mono hB)
 have HB0:=Lib.hid ((Below.refl w.heap.size w).alloc (Nat.le_refl _) (.cells #[.slice none 0 0,.int .i64 0,.int .i64 0,.int .i64 0,.int .i64 0] 117))
 have HQ:=Lib.hid (show PrB (w.alloc (.cells #[.slice none 0 0,.int .i64 0,.int .i64 0,.int .i64 0,.int .i64 0] 117)) w.heap.size (.slice none 0 0) 0 0 0 0 from heap_alloc_new w _)
 rw[hx]
 clear h hx hk
 have hwi:IntKind.i64.wrap (i+1)=i+1:=IntWalk.i64_in _ ⟨by omega,by omega⟩
 go_enter Tryz.func144,Tryz.ntmps144
 go_wp2_with fail
 refine(rctok_any (HTK.out _ HB0.out) i).mono ?_
 rintro e w1 ⟨rfl,hb1⟩
 rw[HX.out]
 unfold tokV
 have hB2:=((HB0.out.trans (hb1.mono HB0.out.size)).alloc (Nat.le_trans HB0.out.size hb1.size) (.cells #[.int .i64 x.kind,.string x.text,.int .i64 x.num,.int .i64 x.line,.int .i64 x.col] 48))
 have HB2:=Lib.hid (hB2.alloc hB2.size (.cells #[.string ⟨#[116,114,117,101]⟩,.string ⟨#[102,97,108,115,101]⟩,.string ⟨#[99,111,109,112,108,101,116,101]⟩,.string ⟨#[115,116,117,99,107]⟩] 9))
 have hq1:=HQ.out.below hb1
 have hl1:=hq1.lt
 have HQ2:=Lib.hid ((hq1.alloc (.cells #[.int .i64 x.kind,.string x.text,.int .i64 x.num,.int .i64 x.line,.int .i64 x.col] 48)).alloc (.cells #[.string ⟨#[116,114,117,101]⟩,.string ⟨#[102,97,108,115,101]⟩,.string ⟨#[99,111,109,112,108,101,116,101]⟩,.string ⟨#[115,116,117,99,107]⟩] 9))
 have HT2:=Lib.hid ((show TkB (w1.alloc (.cells #[.int .i64 x.kind,.string x.text,.int .i64 x.num,.int .i64 x.line,.int .i64 x.col] 48)) w1.heap.size x from heap_alloc_new w1 _).alloc (.cells #[.string ⟨#[116,114,117,101]⟩,.string ⟨#[102,97,108,115,101]⟩,.string ⟨#[99,111,109,112,108,101,116,101]⟩,.string ⟨#[115,116,117,99,107]⟩] 9))
 have HL2:=Lib.hid (show TlB ((w1.alloc (.cells #[.int .i64 x.kind,.string x.text,.int .i64 x.num,.int .i64 x.line,.int .i64 x.col] 48)).alloc (.cells #[.string ⟨#[116,114,117,101]⟩,.string ⟨#[102,97,108,115,101]⟩,.string ⟨#[99,111,109,112,108,101,116,101]⟩,.string ⟨#[115,116,117,99,107]⟩] 9)) (w1.heap.size+1) from heap_at_size _ _ _ (by simp))
 obtain⟨d0,d1,d2,d3,d4⟩:=HT2.out.facts
 clear hb1 hB2 hq1
 go_wp2_with fail
 refine(rcindex_any _ trueL x.text _ HL2.out.reads (by decide)).mono ?_
 rintro e w' ⟨rfl,rfl⟩
 rw[HK.out]
 have HB3:=Lib.hid (HB2.out.alloc HB2.out.size (.cells #[.int .i64 1,.int .i64 2,.int .i64 13,.int .i64 14] 3))
 have HQ3:=Lib.hid (HQ2.out.alloc (.cells #[.int .i64 1,.int .i64 2,.int .i64 13,.int .i64 14] 3))
 have HT3:=Lib.hid (HT2.out.alloc (.cells #[.int .i64 1,.int .i64 2,.int .i64 13,.int .i64 14] 3))
 have hO3: (((w1.alloc (.cells #[.int .i64 x.kind,.string x.text,.int .i64 x.num,.int .i64 x.line,.int .i64 x.col] 48)).alloc (.cells #[.string ⟨#[116,114,117,101]⟩,.string ⟨#[102,97,108,115,101]⟩,.string ⟨#[99,111,109,112,108,101,116,101]⟩,.string ⟨#[115,116,117,99,107]⟩] 9)).alloc (.cells #[.int .i64 1,.int .i64 2,.int .i64 13,.int .i64 14] 3)).heap[w1.heap.size+1+1]?=some (.cells #[.int .i64 1,.int .i64 2,.int .i64 13,.int .i64 14] 3 (0,0)):=heap_at_size _ _ _ (by simp)
 have HO3:=Lib.hid hO3
 clear hO3 d0 d1 d2 d3 d4
 go_wp2
 obtain⟨W3,hW3⟩:∃ W,((w1.alloc (.cells #[.int .i64 x.kind,.string x.text,.int .i64 x.num,.int .i64 x.line,.int .i64 x.col] 48)).alloc (.cells #[.string ⟨#[116,114,117,101]⟩,.string ⟨#[102,97,108,115,101]⟩,.string ⟨#[99,111,109,112,108,101,116,101]⟩,.string ⟨#[115,116,117,99,107]⟩] 9)).alloc (.cells #[.int .i64 1,.int .i64 2,.int .i64 13,.int .i64 14] 3)=W:=⟨_,rfl⟩
 rw[hW3] at HB3 HQ3 HT3 HO3 ⊢
 clear hW3 HB2 HQ2 HT2 HL2
 obtain⟨c0,c1,c2,c3,c4⟩:=HQ3.out.facts
 obtain⟨z0,z1,z2,z3,z4⟩:=HQ3.out.free
 have hlt3:=HQ3.out.lt
 obtain⟨_,_,_,d3,d4⟩:=HT3.out.facts
 have o0:W3.cell? ⟨w1.heap.size+1+1,1,none⟩ = some (.int .i64 2):=by simp[World.cell?,HO3.out]
 have hlo3:=(Array.getElem?_eq_some_iff.1 HO3.out).1
 have n0:W3.drew.cell? ⟨w1.heap.size+1+1,1,none⟩ = some (.int .i64 2):=o0
 have n1:W3.drew.cell? ⟨w1.heap.size,3,none⟩ = some (.int .i64 x.line):=d3
 have n2:W3.drew.cell? ⟨w1.heap.size,4,none⟩ = some (.int .i64 x.col):=d4
 have tk:∀ (g j:Nat) (v:Value),g≠w.heap.size→g < W3.heap.size→W3.cell? ⟨g,j,none⟩ = some v→((((((W3.setCell ⟨w.heap.size,0,none⟩ (.slice (some ⟨W3.heap.size,0,none⟩) 1 1)).setCell ⟨w.heap.size,1,none⟩ (.int .i64 (i+1))).setCell ⟨w.heap.size,2,none⟩ (.int .i64 0)).setCell ⟨w.heap.size,3,none⟩ (.int .i64 0)).setCell ⟨w.heap.size,4,none⟩ (.int .i64 0)).alloc (.cells #[.int .i64 2,.string ⟨#[]⟩,.int .i64 0,.string ⟨#[]⟩,.int .i64 0,.string ⟨#[]⟩,.string ⟨#[]⟩,.int .i64 x.line,.int .i64 x.col] 87)).drew.cell? ⟨g,j,none⟩ = some v:=by
  intro g j v hg hl hc
  exact((((Below.refl _ (((((W3.setCell ⟨w.heap.size,0,none⟩ (.slice (some ⟨W3.heap.size,0,none⟩) 1 1)).setCell ⟨w.heap.size,1,none⟩ (.int .i64 (i+1))).setCell ⟨w.heap.size,2,none⟩ (.int .i64 0)).setCell ⟨w.heap.size,3,none⟩ (.int .i64 0)).setCell ⟨w.heap.size,4,none⟩ (.int .i64 0))).alloc (Nat.le_refl _) (.cells #[.int .i64 2,.string ⟨#[]⟩,.int .i64 0,.string ⟨#[]⟩,.int .i64 0,.string ⟨#[]⟩,.string ⟨#[]⟩,.int .i64 x.line,.int .i64 x.col] 87)).drew).cell (p:=⟨g,j,none⟩) (by simpa only[World.size_setCell] using hl)).trans (cell_tok _ _ _ _ _ hg hc)
 have hltk:=HT3.out.lt
 have t0:=tk _ _ _ (by omega) hlo3 o0;have t1:=tk _ _ _ (by omega) hltk d3;have t2:=tk _ _ _ (by omega) hltk d4
 clear tk
 have fk:∀ (g j:Nat) (v:Value),g < W3.heap.size→W3.cell? ⟨g,j,none⟩ = some v→(W3.alloc (.cells #[.int .i64 2,.string ⟨#[]⟩,.int .i64 0,.string ⟨#[]⟩,.int .i64 0,.string ⟨#[]⟩,.string ⟨#[]⟩,.int .i64 x.line,.int .i64 x.col] 87)).drew.cell? ⟨g,j,none⟩ = some v:=by
  intro g j v hl hc
  exact((((Below.refl _ W3).alloc (Nat.le_refl _) (.cells #[.int .i64 2,.string ⟨#[]⟩,.int .i64 0,.string ⟨#[]⟩,.int .i64 0,.string ⟨#[]⟩,.string ⟨#[]⟩,.int .i64 x.line,.int .i64 x.col] 87)).drew).cell (p:=⟨g,j,none⟩) hl).trans hc
 have f0:=fk _ _ _ hlo3 o0;have f1:=fk _ _ _ hltk d3;have f2:=fk _ _ _ hltk d4
 clear fk
 have hq9:=HQ3.out.stored (.slice (some ⟨W3.heap.size,0,none⟩) 1 1) (i+1) 0 0 0
 have hb9:=below_tok HB3.out (Nat.le_refl _) (.slice (some ⟨W3.heap.size,0,none⟩) 1 1) (.int .i64 (i+1)) (.int .i64 0) (.int .i64 0) (.int .i64 0)
 have HE:=Lib.hid (hq9.alloc (.cells #[.int .i64 2,.string ⟨#[]⟩,.int .i64 0,.string ⟨#[]⟩,.int .i64 0,.string ⟨#[]⟩,.string ⟨#[]⟩,.int .i64 x.line,.int .i64 x.col] 87)).drew.facts
 have HBE:=Lib.hid (hb9.alloc hb9.size (.cells #[.int .i64 2,.string ⟨#[]⟩,.int .i64 0,.string ⟨#[]⟩,.int .i64 0,.string ⟨#[]⟩,.string ⟨#[]⟩,.int .i64 x.line,.int .i64 x.col] 87)).drew
 have hown:=World.ownsRow_lit (e:=87) (size:=9) (((((W3.setCell ⟨w.heap.size,0,none⟩ (.slice (some ⟨W3.heap.size,0,none⟩) 1 1)).setCell ⟨w.heap.size,1,none⟩ (.int .i64 (i+1))).setCell ⟨w.heap.size,2,none⟩ (.int .i64 0)).setCell ⟨w.heap.size,3,none⟩ (.int .i64 0)).setCell ⟨w.heap.size,4,none⟩ (.int .i64 0)) (#[.int .i64 2,.string ⟨#[]⟩,.int .i64 0,.string ⟨#[]⟩,.int .i64 0,.string ⟨#[]⟩,.string ⟨#[]⟩,.int .i64 x.line,.int .i64 x.col]) 1 (Nat.le_refl _) (by decide) rfl
 simp only[World.size_setCell] at hown
 have HOWN:=Lib.hid (owns_mono hown.drew (show w.heap.size≤W3.heap.size by omega))
 clear hown hq9 hb9
 go_region_held3 (fun w'=>w'.cell? ⟨w1.heap.size+1+1,1,none⟩ = some (.int .i64 2)∧w'.cell? ⟨w1.heap.size,3,none⟩ = some (.int .i64 x.line)∧w'.cell? ⟨w1.heap.size,4,none⟩ = some (.int .i64 x.col))
  (first| (with_reducible exact⟨n0,n1,n2⟩)| (with_reducible exact⟨f0,f1,f2⟩)| (with_reducible exact⟨t0,t1,t2⟩)| (trace_state;fail))
  (fail)
 go_wp2
 obtain⟨e0,e1,e2,e3,e4⟩:=HE.out
 refine bodyPost_ret (v:=.agg #[.slice (some ⟨W3.heap.size,0,none⟩) 1 1,.int .i64 (i+1),.int .i64 0,.int .i64 0,.int .i64 0]) (by simp[results,Tryz.results144,go_sem,e0,e1,e2,e3,e4]) rfl ?_
 exact⟨W3.heap.size,1,rfl,HOWN.out,HBE.out⟩
set_option maxRecDepth 100000 in
set_option maxHeartbeats 4000000 in
theorem ratom_t2 {w:World} {B:Nat} {lv:Value} {T:List Tk} (h:TkIn w B lv T) (hB:B≤w.heap.size) (i:Int) (hlo:-9223372036854775808≤i) (hhi:i≤1000000)
 (hk:idxP trueL (tkAt T i).text=2) :
 Calls Tryz.prog 144 #[lv,.int .i64 i,.bool true] w (RPost w (.ok [item 13 (tkAt T i)] (i+1))):=by
 obtain⟨x,hx⟩:∃ x,tkAt T i=x:=⟨_,rfl⟩
 rw[hx] at hk
 have HX:=Lib.hid hx;have HK:=Lib.hid hk
 have HTK:Hid (∀ W,Below w.heap.size w W→TkIn W B lv T):=fun W hW=>h.below (hW.mono hB)
 have HB0:=Lib.hid ((Below.refl w.heap.size w).alloc (Nat.le_refl _) (.cells #[.slice none 0 0,.int .i64 0,.int .i64 0,.int .i64 0,.int .i64 0] 117))
 have HQ:=Lib.hid (show PrB (w.alloc (.cells #[.slice none 0 0,.int .i64 0,.int .i64 0,.int .i64 0,.int .i64 0] 117)) w.heap.size (.slice none 0 0) 0 0 0 0 from heap_alloc_new w _)
 rw[hx]
 clear h hx hk
 have hwi:IntKind.i64.wrap (i+1)=i+1:=IntWalk.i64_in _ ⟨by omega,by omega⟩
 go_enter Tryz.func144,Tryz.ntmps144
 go_wp2_with fail
 refine(rctok_any (HTK.out _ HB0.out) i).mono ?_
 rintro e w1 ⟨rfl,hb1⟩
 rw[HX.out]
 unfold tokV
 have hB2:=((HB0.out.trans (hb1.mono HB0.out.size)).alloc (Nat.le_trans HB0.out.size hb1.size) (.cells #[.int .i64 x.kind,.string x.text,.int .i64 x.num,.int .i64 x.line,.int .i64 x.col] 48))
 have HB2:=Lib.hid (hB2.alloc hB2.size (.cells #[.string ⟨#[116,114,117,101]⟩,.string ⟨#[102,97,108,115,101]⟩,.string ⟨#[99,111,109,112,108,101,116,101]⟩,.string ⟨#[115,116,117,99,107]⟩] 9))
 have hq1:=HQ.out.below hb1
 have hl1:=hq1.lt
 have HQ2:=Lib.hid ((hq1.alloc (.cells #[.int .i64 x.kind,.string x.text,.int .i64 x.num,.int .i64 x.line,.int .i64 x.col] 48)).alloc (.cells #[.string ⟨#[116,114,117,101]⟩,.string ⟨#[102,97,108,115,101]⟩,.string ⟨#[99,111,109,112,108,101,116,101]⟩,.string ⟨#[115,116,117,99,107]⟩] 9))
 have HT2:=Lib.hid ((show TkB (w1.alloc (.cells #[.int .i64 x.kind,.string x.text,.int .i64 x.num,.int .i64 x.line,.int .i64 x.col] 48)) w1.heap.size x from heap_alloc_new w1 _).alloc (.cells #[.string ⟨#[116,114,117,101]⟩,.string ⟨#[102,97,108,115,101]⟩,.string ⟨#[99,111,109,112,108,101,116,101]⟩,.string ⟨#[115,116,117,99,107]⟩] 9))
 have HL2:=Lib.hid (show TlB ((w1.alloc (.cells #[.int .i64 x.kind,.string x.text,.int .i64 x.num,.int .i64 x.line,.int .i64 x.col] 48)).alloc (.cells #[.string ⟨#[116,114,117,101]⟩,.string ⟨#[102,97,108,115,101]⟩,.string ⟨#[99,111,109,112,108,101,116,101]⟩,.string ⟨#[115,116,117,99,107]⟩] 9)) (w1.heap.size+1) from heap_at_size _ _ _ (by simp))
 obtain⟨d0,d1,d2,d3,d4⟩:=HT2.out.facts
 clear hb1 hB2 hq1
 go_wp2_with fail
 refine(rcindex_any _ trueL x.text _ HL2.out.reads (by decide)).mono ?_
 rintro e w' ⟨rfl,rfl⟩
 rw[HK.out]
 have HB3:=Lib.hid (HB2.out.alloc HB2.out.size (.cells #[.int .i64 1,.int .i64 2,.int .i64 13,.int .i64 14] 3))
 have HQ3:=Lib.hid (HQ2.out.alloc (.cells #[.int .i64 1,.int .i64 2,.int .i64 13,.int .i64 14] 3))
 have HT3:=Lib.hid (HT2.out.alloc (.cells #[.int .i64 1,.int .i64 2,.int .i64 13,.int .i64 14] 3))
 have hO3: (((w1.alloc (.cells #[.int .i64 x.kind,.string x.text,.int .i64 x.num,.int .i64 x.line,.int .i64 x.col] 48)).alloc (.cells #[.string ⟨#[116,114,117,101]⟩,.string ⟨#[102,97,108,115,101]⟩,.string ⟨#[99,111,109,112,108,101,116,101]⟩,.string ⟨#[115,116,117,99,107]⟩] 9)).alloc (.cells #[.int .i64 1,.int .i64 2,.int .i64 13,.int .i64 14] 3)).heap[w1.heap.size+1+1]?=some (.cells #[.int .i64 1,.int .i64 2,.int .i64 13,.int .i64 14] 3 (0,0)):=heap_at_size _ _ _ (by simp)
 have HO3:=Lib.hid hO3
 clear hO3 d0 d1 d2 d3 d4
 go_wp2
 obtain⟨W3,hW3⟩:∃ W,((w1.alloc (.cells #[.int .i64 x.kind,.string x.text,.int .i64 x.num,.int .i64 x.line,.int .i64 x.col] 48)).alloc (.cells #[.string ⟨#[116,114,117,101]⟩,.string ⟨#[102,97,108,115,101]⟩,.string ⟨#[99,111,109,112,108,101,116,101]⟩,.string ⟨#[115,116,117,99,107]⟩] 9)).alloc (.cells #[.int .i64 1,.int .i64 2,.int .i64 13,.int .i64 14] 3)=W:=⟨_,rfl⟩
 rw[hW3] at HB3 HQ3 HT3 HO3 ⊢
 clear hW3 HB2 HQ2 HT2 HL2
 obtain⟨c0,c1,c2,c3,c4⟩:=HQ3.out.facts
 obtain⟨z0,z1,z2,z3,z4⟩:=HQ3.out.free
 have hlt3:=HQ3.out.lt
 obtain⟨_,_,_,d3,d4⟩:=HT3.out.facts
 have o0:W3.cell? ⟨w1.heap.size+1+1,2,none⟩ = some (.int .i64 13):=by simp[World.cell?,HO3.out]
 have hlo3:=(Array.getElem?_eq_some_iff.1 HO3.out).1
 have n0:W3.drew.cell? ⟨w1.heap.size+1+1,2,none⟩ = some (.int .i64 13):=o0
 have n1:W3.drew.cell? ⟨w1.heap.size,3,none⟩ = some (.int .i64 x.line):=d3
 have n2:W3.drew.cell? ⟨w1.heap.size,4,none⟩ = some (.int .i64 x.col):=d4
 have tk:∀ (g j:Nat) (v:Value),g≠w.heap.size→g < W3.heap.size→W3.cell? ⟨g,j,none⟩ = some v→((((((W3.setCell ⟨w.heap.size,0,none⟩ (.slice (some ⟨W3.heap.size,0,none⟩) 1 1)).setCell ⟨w.heap.size,1,none⟩ (.int .i64 (i+1))).setCell ⟨w.heap.size,2,none⟩ (.int .i64 0)).setCell ⟨w.heap.size,3,none⟩ (.int .i64 0)).setCell ⟨w.heap.size,4,none⟩ (.int .i64 0)).alloc (.cells #[.int .i64 13,.string ⟨#[]⟩,.int .i64 0,.string ⟨#[]⟩,.int .i64 0,.string ⟨#[]⟩,.string ⟨#[]⟩,.int .i64 x.line,.int .i64 x.col] 87)).drew.cell? ⟨g,j,none⟩ = some v:=by
  intro g j v hg hl hc
  exact((((Below.refl _ (((((W3.setCell ⟨w.heap.size,0,none⟩ (.slice (some ⟨W3.heap.size,0,none⟩) 1 1)).setCell ⟨w.heap.size,1,none⟩ (.int .i64 (i+1))).setCell ⟨w.heap.size,2,none⟩ (.int .i64 0)).setCell ⟨w.heap.size,3,none⟩ (.int .i64 0)).setCell ⟨w.heap.size,4,none⟩ (.int .i64 0))).alloc (Nat.le_refl _) (.cells #[.int .i64 13,.string ⟨#[]⟩,.int .i64 0,.string ⟨#[]⟩,.int .i64 0,.string ⟨#[]⟩,.string ⟨#[]⟩,.int .i64 x.line,.int .i64 x.col] 87)).drew).cell (p:=⟨g,j,none⟩) (by simpa only[World.size_setCell] using hl)).trans (cell_tok _ _ _ _ _ hg hc)
 have hltk:=HT3.out.lt
 have t0:=tk _ _ _ (by omega) hlo3 o0;have t1:=tk _ _ _ (by omega) hltk d3;have t2:=tk _ _ _ (by omega) hltk d4
 clear tk
 have fk:∀ (g j:Nat) (v:Value),g < W3.heap.size→W3.cell? ⟨g,j,none⟩ = some v→(W3.alloc (.cells #[.int .i64 13,.string ⟨#[]⟩,.int .i64 0,.string ⟨#[]⟩,.int .i64 0,.string ⟨#[]⟩,.string ⟨#[]⟩,.int .i64 x.line,.int .i64 x.col] 87)).drew.cell? ⟨g,j,none⟩ = some v:=by
  intro g j v hl hc
  exact((((Below.refl _ W3).alloc (Nat.le_refl _) (.cells #[.int .i64 13,.string ⟨#[]⟩,.int .i64 0,.string ⟨#[]⟩,.int .i64 0,.string ⟨#[]⟩,.string ⟨#[]⟩,.int .i64 x.line,.int .i64 x.col] 87)).drew).cell (p:=⟨g,j,none⟩) hl).trans hc
 have f0:=fk _ _ _ hlo3 o0;have f1:=fk _ _ _ hltk d3;have f2:=fk _ _ _ hltk d4
 clear fk
 have hq9:=HQ3.out.stored (.slice (some ⟨W3.heap.size,0,none⟩) 1 1) (i+1) 0 0 0
 have hb9:=below_tok HB3.out (Nat.le_refl _) (.slice (some ⟨W3.heap.size,0,none⟩) 1 1) (.int .i64 (i+1)) (.int .i64 0) (.int .i64 0) (.int .i64 0)
 have HE:=Lib.hid (hq9.alloc (.cells #[.int .i64 13,.string ⟨#[]⟩,.int .i64 0,.string ⟨#[]⟩,.int .i64 0,.string ⟨#[]⟩,.string ⟨#[]⟩,.int .i64 x.line,.int .i64 x.col] 87)).drew.facts
 have HBE:=Lib.hid (hb9.alloc hb9.size (.cells #[.int .i64 13,.string ⟨#[]⟩,.int .i64 0,.string ⟨#[]⟩,.int .i64 0,.string ⟨#[]⟩,.string ⟨#[]⟩,.int .i64 x.line,.int .i64 x.col] 87)).drew
 have hown:=World.ownsRow_lit (e:=87) (size:=9) (((((W3.setCell ⟨w.heap.size,0,none⟩ (.slice (some ⟨W3.heap.size,0,none⟩) 1 1)).setCell ⟨w.heap.size,1,none⟩ (.int .i64 (i+1))).setCell ⟨w.heap.size,2,none⟩ (.int .i64 0)).setCell ⟨w.heap.size,3,none⟩ (.int .i64 0)).setCell ⟨w.heap.size,4,none⟩ (.int .i64 0)) (#[.int .i64 13,.string ⟨#[]⟩,.int .i64 0,.string ⟨#[]⟩,.int .i64 0,.string ⟨#[]⟩,.string ⟨#[]⟩,.int .i64 x.line,.int .i64 x.col]) 1 (Nat.le_refl _) (by decide) rfl
 simp only[World.size_setCell] at hown
 have HOWN:=Lib.hid (owns_mono hown.drew (show w.heap.size≤W3.heap.size by omega))
 clear hown hq9 hb9
 go_region_held3 (fun w'=>w'.cell? ⟨w1.heap.size+1+1,2,none⟩ = some (.int .i64 13)∧w'.cell? ⟨w1.heap.size,3,none⟩ = some (.int .i64 x.line)∧w'.cell? ⟨w1.heap.size,4,none⟩ = some (.int .i64 x.col))
  (first| (with_reducible exact⟨n0,n1,n2⟩)| (with_reducible exact⟨f0,f1,f2⟩)| (with_reducible exact⟨t0,t1,t2⟩)| (trace_state;fail))
  (fail)
 go_wp2
 obtain⟨e0,e1,e2,e3,e4⟩:=HE.out
 refine bodyPost_ret (v:=.agg #[.slice (some ⟨W3.heap.size,0,none⟩) 1 1,.int .i64 (i+1),.int .i64 0,.int .i64 0,.int .i64 0]) (by simp[results,Tryz.results144,go_sem,e0,e1,e2,e3,e4]) rfl ?_
 exact⟨W3.heap.size,1,rfl,HOWN.out,HBE.out⟩
set_option maxRecDepth 100000 in
set_option maxHeartbeats 4000000 in
theorem ratom_t3 {w:World} {B:Nat} {lv:Value} {T:List Tk} (h:TkIn w B lv T) (hB:B≤w.heap.size) (i:Int) (hlo:-9223372036854775808≤i) (hhi:i≤1000000)
 (hk:idxP trueL (tkAt T i).text=3) :
 Calls Tryz.prog 144 #[lv,.int .i64 i,.bool true] w (RPost w (.ok [item 14 (tkAt T i)] (i+1))):=by
 obtain⟨x,hx⟩:∃ x,tkAt T i=x:=⟨_,rfl⟩
 rw[hx] at hk
 have HX:=Lib.hid hx;have HK:=Lib.hid hk
 have HTK:Hid (∀ W,Below w.heap.size w W→TkIn W B lv T):=fun W hW=>h.below (hW.mono hB)
 have HB0:=Lib.hid ((Below.refl w.heap.size w).alloc (Nat.le_refl _) (.cells #[.slice none 0 0,.int .i64 0,.int .i64 0,.int .i64 0,.int .i64 0] 117))
 have HQ:=Lib.hid (show PrB (w.alloc (.cells #[.slice none 0 0,.int .i64 0,.int .i64 0,.int .i64 0,.int .i64 0] 117)) w.heap.size (.slice none 0 0) 0 0 0 0 from heap_alloc_new w _)
 rw[hx]
 clear h hx hk
 have hwi:IntKind.i64.wrap (i+1)=i+1:=IntWalk.i64_in _ ⟨by omega,by omega⟩
 go_enter Tryz.func144,Tryz.ntmps144
 go_wp2_with fail
 refine(rctok_any (HTK.out _ HB0.out) i).mono ?_
 rintro e w1 ⟨rfl,hb1⟩
 rw[HX.out]
 unfold tokV
 have hB2:=((HB0.out.trans (hb1.mono HB0.out.size)).alloc (Nat.le_trans HB0.out.size hb1.size) (.cells #[.int .i64 x.kind,.string x.text,.int .i64 x.num,.int .i64 x.line,.int .i64 x.col] 48))
 have HB2:=Lib.hid (hB2.alloc hB2.size (.cells #[.string ⟨#[116,114,117,101]⟩,.string ⟨#[102,97,108,115,101]⟩,.string ⟨#[99,111,109,112,108,101,116,101]⟩,.string ⟨#[115,116,117,99,107]⟩] 9))
 have hq1:=HQ.out.below hb1
 have hl1:=hq1.lt
 have HQ2:=Lib.hid ((hq1.alloc (.cells #[.int .i64 x.kind,.string x.text,.int .i64 x.num,.int .i64 x.line,.int .i64 x.col] 48)).alloc (.cells #[.string ⟨#[116,114,117,101]⟩,.string ⟨#[102,97,108,115,101]⟩,.string ⟨#[99,111,109,112,108,101,116,101]⟩,.string ⟨#[115,116,117,99,107]⟩] 9))
 have HT2:=Lib.hid ((show TkB (w1.alloc (.cells #[.int .i64 x.kind,.string x.text,.int .i64 x.num,.int .i64 x.line,.int .i64 x.col] 48)) w1.heap.size x from heap_alloc_new w1 _).alloc (.cells #[.string ⟨#[116,114,117,101]⟩,.string ⟨#[102,97,108,115,101]⟩,.string ⟨#[99,111,109,112,108,101,116,101]⟩,.string ⟨#[115,116,117,99,107]⟩] 9))
 have HL2:=Lib.hid (show TlB ((w1.alloc (.cells #[.int .i64 x.kind,.string x.text,.int .i64 x.num,.int .i64 x.line,.int .i64 x.col] 48)).alloc (.cells #[.string ⟨#[116,114,117,101]⟩,.string ⟨#[102,97,108,115,101]⟩,.string ⟨#[99,111,109,112,108,101,116,101]⟩,.string ⟨#[115,116,117,99,107]⟩] 9)) (w1.heap.size+1) from heap_at_size _ _ _ (by simp))
 obtain⟨d0,d1,d2,d3,d4⟩:=HT2.out.facts
 clear hb1 hB2 hq1
 go_wp2_with fail
 refine(rcindex_any _ trueL x.text _ HL2.out.reads (by decide)).mono ?_
 rintro e w' ⟨rfl,rfl⟩
 rw[HK.out]
 have HB3:=Lib.hid (HB2.out.alloc HB2.out.size (.cells #[.int .i64 1,.int .i64 2,.int .i64 13,.int .i64 14] 3))
 have HQ3:=Lib.hid (HQ2.out.alloc (.cells #[.int .i64 1,.int .i64 2,.int .i64 13,.int .i64 14] 3))
 have HT3:=Lib.hid (HT2.out.alloc (.cells #[.int .i64 1,.int .i64 2,.int .i64 13,.int .i64 14] 3))
 have hO3: (((w1.alloc (.cells #[.int .i64 x.kind,.string x.text,.int .i64 x.num,.int .i64 x.line,.int .i64 x.col] 48)).alloc (.cells #[.string ⟨#[116,114,117,101]⟩,.string ⟨#[102,97,108,115,101]⟩,.string ⟨#[99,111,109,112,108,101,116,101]⟩,.string ⟨#[115,116,117,99,107]⟩] 9)).alloc (.cells #[.int .i64 1,.int .i64 2,.int .i64 13,.int .i64 14] 3)).heap[w1.heap.size+1+1]?=some (.cells #[.int .i64 1,.int .i64 2,.int .i64 13,.int .i64 14] 3 (0,0)):=heap_at_size _ _ _ (by simp)
 have HO3:=Lib.hid hO3
 clear hO3 d0 d1 d2 d3 d4
 go_wp2
 obtain⟨W3,hW3⟩:∃ W,((w1.alloc (.cells #[.int .i64 x.kind,.string x.text,.int .i64 x.num,.int .i64 x.line,.int .i64 x.col] 48)).alloc (.cells #[.string ⟨#[116,114,117,101]⟩,.string ⟨#[102,97,108,115,101]⟩,.string ⟨#[99,111,109,112,108,101,116,101]⟩,.string ⟨#[115,116,117,99,107]⟩] 9)).alloc (.cells #[.int .i64 1,.int .i64 2,.int .i64 13,.int .i64 14] 3)=W:=⟨_,rfl⟩
 rw[hW3] at HB3 HQ3 HT3 HO3 ⊢
 clear hW3 HB2 HQ2 HT2 HL2
 obtain⟨c0,c1,c2,c3,c4⟩:=HQ3.out.facts
 obtain⟨z0,z1,z2,z3,z4⟩:=HQ3.out.free
 have hlt3:=HQ3.out.lt
 obtain⟨_,_,_,d3,d4⟩:=HT3.out.facts
 have o0:W3.cell? ⟨w1.heap.size+1+1,3,none⟩ = some (.int .i64 14):=by simp[World.cell?,HO3.out]
 have hlo3:=(Array.getElem?_eq_some_iff.1 HO3.out).1
 have n0:W3.drew.cell? ⟨w1.heap.size+1+1,3,none⟩ = some (.int .i64 14):=o0
 have n1:W3.drew.cell? ⟨w1.heap.size,3,none⟩ = some (.int .i64 x.line):=d3
 have n2:W3.drew.cell? ⟨w1.heap.size,4,none⟩ = some (.int .i64 x.col):=d4
 have tk:∀ (g j:Nat) (v:Value),g≠w.heap.size→g < W3.heap.size→W3.cell? ⟨g,j,none⟩ = some v→((((((W3.setCell ⟨w.heap.size,0,none⟩ (.slice (some ⟨W3.heap.size,0,none⟩) 1 1)).setCell ⟨w.heap.size,1,none⟩ (.int .i64 (i+1))).setCell ⟨w.heap.size,2,none⟩ (.int .i64 0)).setCell ⟨w.heap.size,3,none⟩ (.int .i64 0)).setCell ⟨w.heap.size,4,none⟩ (.int .i64 0)).alloc (.cells #[.int .i64 14,.string ⟨#[]⟩,.int .i64 0,.string ⟨#[]⟩,.int .i64 0,.string ⟨#[]⟩,.string ⟨#[]⟩,.int .i64 x.line,.int .i64 x.col] 87)).drew.cell? ⟨g,j,none⟩ = some v:=by
  intro g j v hg hl hc
  exact((((Below.refl _ (((((W3.setCell ⟨w.heap.size,0,none⟩ (.slice (some ⟨W3.heap.size,0,none⟩) 1 1)).setCell ⟨w.heap.size,1,none⟩ (.int .i64 (i+1))).setCell ⟨w.heap.size,2,none⟩ (.int .i64 0)).setCell ⟨w.heap.size,3,none⟩ (.int .i64 0)).setCell ⟨w.heap.size,4,none⟩ (.int .i64 0))).alloc (Nat.le_refl _) (.cells #[.int .i64 14,.string ⟨#[]⟩,.int .i64 0,.string ⟨#[]⟩,.int .i64 0,.string ⟨#[]⟩,.string ⟨#[]⟩,.int .i64 x.line,.int .i64 x.col] 87)).drew).cell (p:=⟨g,j,none⟩) (by simpa only[World.size_setCell] using hl)).trans (cell_tok _ _ _ _ _ hg hc)
 have hltk:=HT3.out.lt
 have t0:=tk _ _ _ (by omega) hlo3 o0;have t1:=tk _ _ _ (by omega) hltk d3;have t2:=tk _ _ _ (by omega) hltk d4
 clear tk
 have fk:∀ (g j:Nat) (v:Value),g < W3.heap.size→W3.cell? ⟨g,j,none⟩ = some v→(W3.alloc (.cells #[.int .i64 14,.string ⟨#[]⟩,.int .i64 0,.string ⟨#[]⟩,.int .i64 0,.string ⟨#[]⟩,.string ⟨#[]⟩,.int .i64 x.line,.int .i64 x.col] 87)).drew.cell? ⟨g,j,none⟩ = some v:=by
  intro g j v hl hc
  exact((((Below.refl _ W3).alloc (Nat.le_refl _) (.cells #[.int .i64 14,.string ⟨#[]⟩,.int .i64 0,.string ⟨#[]⟩,.int .i64 0,.string ⟨#[]⟩,.string ⟨#[]⟩,.int .i64 x.line,.int .i64 x.col] 87)).drew).cell (p:=⟨g,j,none⟩) hl).trans hc
 have f0:=fk _ _ _ hlo3 o0;have f1:=fk _ _ _ hltk d3;have f2:=fk _ _ _ hltk d4
 clear fk
 have hq9:=HQ3.out.stored (.slice (some ⟨W3.heap.size,0,none⟩) 1 1) (i+1) 0 0 0
 have hb9:=below_tok HB3.out (Nat.le_refl _) (.slice (some ⟨W3.heap.size,0,none⟩) 1 1) (.int .i64 (i+1)) (.int .i64 0) (.int .i64 0) (.int .i64 0)
 have HE:=Lib.hid (hq9.alloc (.cells #[.int .i64 14,.string ⟨#[]⟩,.int .i64 0,.string ⟨#[]⟩,.int .i64 0,.string ⟨#[]⟩,.string ⟨#[]⟩,.int .i64 x.line,.int .i64 x.col] 87)).drew.facts
 have HBE:=Lib.hid (hb9.alloc hb9.size (.cells #[.int .i64 14,.string ⟨#[]⟩,.int .i64 0,.string ⟨#[]⟩,.int .i64 0,.string ⟨#[]⟩,.string ⟨#[]⟩,.int .i64 x.line,.int .i64 x.col] 87)).drew
 have hown:=World.ownsRow_lit (e:=87) (size:=9) (((((W3.setCell ⟨w.heap.size,0,none⟩ (.slice (some ⟨W3.heap.size,0,none⟩) 1 1)).setCell ⟨w.heap.size,1,none⟩ (.int .i64 (i+1))).setCell ⟨w.heap.size,2,none⟩ (.int .i64 0)).setCell ⟨w.heap.size,3,none⟩ (.int .i64 0)).setCell ⟨w.heap.size,4,none⟩ (.int .i64 0)) (#[.int .i64 14,.string ⟨#[]⟩,.int .i64 0,.string ⟨#[]⟩,.int .i64 0,.string ⟨#[]⟩,.string ⟨#[]⟩,.int .i64 x.line,.int .i64 x.col]) 1 (Nat.le_refl _) (by decide) rfl
 simp only[World.size_setCell] at hown
 have HOWN:=Lib.hid (owns_mono hown.drew (show w.heap.size≤W3.heap.size by omega))
 clear hown hq9 hb9
 go_region_held3 (fun w'=>w'.cell? ⟨w1.heap.size+1+1,3,none⟩ = some (.int .i64 14)∧w'.cell? ⟨w1.heap.size,3,none⟩ = some (.int .i64 x.line)∧w'.cell? ⟨w1.heap.size,4,none⟩ = some (.int .i64 x.col))
  (first| (with_reducible exact⟨n0,n1,n2⟩)| (with_reducible exact⟨f0,f1,f2⟩)| (with_reducible exact⟨t0,t1,t2⟩)| (trace_state;fail))
  (fail)
 go_wp2
 obtain⟨e0,e1,e2,e3,e4⟩:=HE.out
 refine bodyPost_ret (v:=.agg #[.slice (some ⟨W3.heap.size,0,none⟩) 1 1,.int .i64 (i+1),.int .i64 0,.int .i64 0,.int .i64 0]) (by simp[results,Tryz.results144,go_sem,e0,e1,e2,e3,e4]) rfl ?_
 exact⟨W3.heap.size,1,rfl,HOWN.out,HBE.out⟩
theorem ratom_true {w:World} {B:Nat} {lv:Value} {T:List Tk} (h:TkIn w B lv T) (hB:B≤w.heap.size) (i:Int) (hlo:-9223372036854775808≤i) (hhi:i≤1000000) (prop:Bool)
 (k:Int) (hk:idxP trueL (tkAt T i).text=k) (hc:k=0∨k=1∨(k=2∧prop=true)∨(k=3∧prop=true)) :
 Calls Tryz.prog 144 #[lv,.int .i64 i,.bool prop] w (RPost w (.ok [item (if k=0 then 1 else if k=1 then 2 else if k=2 then 13 else 14) (tkAt T i)] (i+1))):=by
 rcases hc with rfl|rfl| ⟨rfl,rfl⟩ | ⟨rfl,rfl⟩
 · exact ratom_t0 h hB i hlo hhi prop hk
 · exact ratom_t1 h hB i hlo hhi prop hk
 · exact ratom_t2 h hB i hlo hhi hk
 · exact ratom_t3 h hB i hlo hhi hk
end Go.Proofs.YthlofmnmacpogaaGreatDoor
