/- A part of a proof: 'warder/warderlaw07.DeclOnes' returns true for every input and leaves its arguments as they were; no condition. The row lists package-level variables of Go's library with what they hold at the start; the card ties them to the program's text. -/
import Derived.Test.YthlofmnmacpogaaGreatDoorOn38
import Derived.Test.YthlofmnmacpogaaGreatDoorOn07
import Derived.Test.YthlofmnmacpogaaGreatDoorOn26
import Derived.Test.YthlofmnmacpogaaGreatDoorOn10
namespace Go.Proofs.YthlofmnmacpogaaGreatDoor
open Go.RowKit
set_option maxRecDepth 100000 in
set_option maxHeartbeats 4000000 in
theorem rread_any {w:World} {B:Nat} {v:Value} {T:List Tk} (h:TkIn w B v T) (hB:B≤w.heap.size) (i:Int) (prop:Bool) (hlo:-9223372036854775808≤i) (hhi:i≤1000000) :
 Calls Tryz.prog 75 #[v,.int .i64 i,.bool prop] w (ReadPost w (readP T prop i)):=by
 have HTK:Hid (∀ W,Below w.heap.size w W→TkIn W B v T):=fun W hW=>h.below (hW.mono hB)
 have HB0:=Lib.hid ((Below.refl w.heap.size w).alloc (Nat.le_refl _) (.cells #[.int .i64 0,.int .i64 0,.int .i64 0] 28))
 have HQ:=Lib.hid (show FtB (w.alloc (.cells #[.int .i64 0,.int .i64 0,.int .i64 0] 28)) w.heap.size 0 0 0 from heap_alloc_new w _)
 have HFO:=Lib.hid ((rboth_any 25 (by omega)).2 _ B v T i prop 0 (HTK.out _ HB0.out) (Nat.le_trans hB HB0.out.size) hlo hhi (by omega))
 obtain⟨x,hx⟩:∃ x,tkAt T i=x:=⟨_,rfl⟩
 have HX:=Lib.hid hx
 have hfd:∀ w:World,(Instr.field 48 (.agg #[.int .i64 x.kind,.string x.text,.int .i64 x.num,.int .i64 x.line,.int .i64 x.col]) 3).run Tryz.prog w=.ok (.agg #[.int .i64 x.line,.int .i64 x.col]) w:=fun _=>by kernel_rfl
 clear h hx
 cases hp: (bothP T prop 25).2 i with
 | bad er l c=>
   have HU:Hid (readP T prop i=.bad er l c):=by unfold Hid readP;rw[hp]
   have HE1:=Lib.hid hp
   clear hp
   go_enter Tryz.func75,Tryz.ntmps75
   go_wp2_with fail
   refine HFO.out.mono ?_
   rw[HE1.out]
   rintro e w1 ⟨av,h0,rfl,hb⟩
   have ne: (er == 0)=false:=beq_eq_false_iff_ne.2 h0
   have ne2: (er !=0)=true:=by simp[bne,ne]
   have HBx:=Lib.hid ((HB0.out.trans (hb.mono HB0.out.size)).alloc (Nat.le_trans HB0.out.size hb.size) (.cells #[.slice none 0 0,.int .i64 av,.int .i64 er,.int .i64 l,.int .i64 c] 117))
   have hq3:=(HQ.out.below hb).alloc (.cells #[.slice none 0 0,.int .i64 av,.int .i64 er,.int .i64 l,.int .i64 c] 117)
   have ha3:=(show PrB (w1.alloc (.cells #[.slice none 0 0,.int .i64 av,.int .i64 er,.int .i64 l,.int .i64 c] 117)) w1.heap.size (.slice none 0 0) av er l c from heap_alloc_new w1 _)
   have m2:=ha3.facts.2.2.1
   clear hb h0
   go_upto_if 17 with fail
   obtain⟨WW,hWW⟩:∃ W,w1.alloc (.cells #[.slice none 0 0,.int .i64 av,.int .i64 er,.int .i64 l,.int .i64 c] 117)=W:=⟨_,rfl⟩
   rw[hWW] at hq3 ha3 HBx ⊢
   clear hWW m2
   obtain⟨m0,m1,m2,m3,m4⟩:=ha3.facts
   obtain⟨q0,q1,q2⟩:=hq3.facts
   obtain⟨z0,z1,z2⟩:=hq3.free
   have hlt3:=hq3.lt
   have HE:=Lib.hid (hq3.stored er l c).facts
   clear hq3 ha3
   go_wp2
   go_region
   go_wp2
   refine bodyPost_ret (v:=.tuple #[.slice none 0 0,.int .i64 0,.agg #[.int .i64 er,.int .i64 l,.int .i64 c]]) (by simp[results,Tryz.results75,go_sem,q0,q1,q2]) rfl ?_
   rw[HU.out]
   exact⟨rfl,(below_fault HBx.out (Nat.le_refl _) _ _ _).drew⟩
 | ok o a=>
   have HE1:=Lib.hid hp
   by_cases h64:64 < o.length
   · have HU:Hid (readP T prop i=.bad 3 x.line x.col):=by unfold Hid readP;rw[hp];dsimp only;rw[if_pos h64,HX.out]
     have hz64: (64:Int) < (o.length:Int):=by omega
     clear hp
     go_enter Tryz.func75,Tryz.ntmps75
     go_wp2_with fail
     refine HFO.out.mono ?_
     rw[HE1.out]
     rintro e w1 ⟨g1,cap1,rfl,hrow,hb⟩
     have HBx:=Lib.hid ((HB0.out.trans (hb.mono HB0.out.size)).alloc (Nat.le_trans HB0.out.size hb.size) (.cells #[.slice (some ⟨g1,0,none⟩) o.length cap1,.int .i64 a,.int .i64 0,.int .i64 0,.int .i64 0] 117))
     have HQ3:=Lib.hid ((HQ.out.below hb).alloc (.cells #[.slice (some ⟨g1,0,none⟩) o.length cap1,.int .i64 a,.int .i64 0,.int .i64 0,.int .i64 0] 117))
     have ha3:=(show PrB (w1.alloc (.cells #[.slice (some ⟨g1,0,none⟩) o.length cap1,.int .i64 a,.int .i64 0,.int .i64 0,.int .i64 0] 117)) w1.heap.size (.slice (some ⟨g1,0,none⟩) o.length cap1) a 0 0 0 from heap_alloc_new w1 _)
     obtain⟨m0,m1,m2,m3,m4⟩:=ha3.facts
     have hltq:=(HQ.out.below hb).lt
     clear hb ha3 hrow
     go_wp2_with fail
     refine(rctok_any (HTK.out _ HBx.out) i).mono ?_
     rintro e w8 ⟨rfl,hb8⟩
     rw[HX.out]
     unfold tokV
     have HB8:=Lib.hid (HBx.out.trans (hb8.mono HBx.out.size))
     have hq3:=HQ3.out.below hb8
     obtain⟨q0,q1,q2⟩:=hq3.facts
     obtain⟨z0,z1,z2⟩:=hq3.free
     have hlt3:=hq3.lt
     have HE:=Lib.hid (hq3.stored 3 x.line x.col).facts
     clear hb8 hq3
     go_wp2
     obtain⟨e0,e1,e2⟩:=HE.out
     refine bodyPost_ret (v:=.tuple #[.slice none 0 0,.int .i64 0,.agg #[.int .i64 3,.int .i64 x.line,.int .i64 x.col]]) (by simp[results,Tryz.results75,go_sem,e0,e1,e2]) rfl ?_
     rw[HU.out]
     exact⟨rfl,(below_fault HB8.out (Nat.le_refl _) _ _ _)⟩
   · have HU:Hid (readP T prop i=.ok o a):=by unfold Hid readP;rw[hp];dsimp only;rw[if_neg h64]
     have hz64:¬(64:Int) < (o.length:Int):=by omega
     clear hp
     go_enter Tryz.func75,Tryz.ntmps75
     go_wp2_with fail
     refine HFO.out.mono ?_
     rw[HE1.out]
     rintro e w1 ⟨g1,cap1,rfl,hrow,hb⟩
     have hRow:=owns_mono (owns_alloc hrow (.cells #[.slice (some ⟨g1,0,none⟩) o.length cap1,.int .i64 a,.int .i64 0,.int .i64 0,.int .i64 0] 117)) HB0.out.size
     have HBx:=Lib.hid ((HB0.out.trans (hb.mono HB0.out.size)).alloc (Nat.le_trans HB0.out.size hb.size) (.cells #[.slice (some ⟨g1,0,none⟩) o.length cap1,.int .i64 a,.int .i64 0,.int .i64 0,.int .i64 0] 117))
     have hq3:=((HQ.out.below hb).alloc (.cells #[.slice (some ⟨g1,0,none⟩) o.length cap1,.int .i64 a,.int .i64 0,.int .i64 0,.int .i64 0] 117))
     have ha3:=(show PrB (w1.alloc (.cells #[.slice (some ⟨g1,0,none⟩) o.length cap1,.int .i64 a,.int .i64 0,.int .i64 0,.int .i64 0] 117)) w1.heap.size (.slice (some ⟨g1,0,none⟩) o.length cap1) a 0 0 0 from heap_alloc_new w1 _)
     have hltq:=(HQ.out.below hb).lt
     obtain⟨m0,m1,m2,m3,m4⟩:=ha3.facts
     clear hb hrow
     go_upto_if 23 with fail
     obtain⟨WW,hWW⟩:∃ W,w1.alloc (.cells #[.slice (some ⟨g1,0,none⟩) o.length cap1,.int .i64 a,.int .i64 0,.int .i64 0,.int .i64 0] 117)=W:=⟨_,rfl⟩
     rw[hWW] at hq3 ha3 HBx hRow ⊢
     clear hWW m0 m1 m2 m3 m4
     obtain⟨n0,n1,_,_,_⟩:=ha3.drew.facts
     obtain⟨q0,q1,q2⟩:=hq3.facts
     obtain⟨z0,z1,z2⟩:=hq3.free
     have hlt3:=hq3.lt
     obtain⟨t0,t1,_,_,_⟩:=(((ha3.over (k:=w.heap.size) (j:=0) (by omega) (.int .i64 0)).over (k:=w.heap.size) (j:=1) (by omega) (.int .i64 0)).over (k:=w.heap.size) (j:=2) (by omega) (.int .i64 0)).drew.facts
     have HE:=Lib.hid (hq3.stored 0 0 0).facts
     have HOW:=Lib.hid (hq3.row hRow (by decide) 0 0 0)
     clear hq3 ha3 hRow
     go_wp2
     first
     | (go_region_held3 (fun w'=>w'.cell? ⟨w1.heap.size,0,none⟩ = some (.slice (some ⟨g1,0,none⟩) o.length cap1)∧w'.cell? ⟨w1.heap.size,1,none⟩ = some (.int .i64 a))
         (first| (with_reducible exact⟨n0,n1⟩)| (with_reducible exact⟨t0,t1⟩)| (trace_state;fail))
         (fail))
     | fail
     all_goals
      go_wp2
      obtain⟨e0,e1,e2⟩:=HE.out
      refine bodyPost_ret (v:=.tuple #[.slice (some ⟨g1,0,none⟩) o.length cap1,.int .i64 a,.agg #[.int .i64 0,.int .i64 0,.int .i64 0]]) (by simp[results,Tryz.results75,go_sem,q0,q1,q2]) rfl ?_
      rw[HU.out]
      exact⟨_,rfl,HOW.out.drew,(below_fault HBx.out (Nat.le_refl _) _ _ _).drew⟩
end Go.Proofs.YthlofmnmacpogaaGreatDoor
namespace Go.Proofs.YthlofmnmacpogaaGreatDoor
open Go.RowKit
def Clr (T:List Tk) (r:RS):Prop:=r.er=0→InD T r∧r.line=0∧r.col=0
theorem mayB_bad {T:List Tk} {k:Int} {s:ByteArray} {r:RS} (h:r.er≠0):mayB T k s r=false:=by unfold mayB;rw[decide_eq_false h,Bool.false_and]
theorem mayB_good {T:List Tk} {k:Int} {s:ByteArray} {r:RS} (h:r.er=0):mayB T k s r=isTk T r.i k s:=by unfold mayB;rw[decide_eq_true h,Bool.true_and]
theorem Clr.name {T:List Tk} {r:RS} (h:Clr T r):Clr T (nameD T r):=fun e=>by
 have h0:r.er=0:=by
  unfold nameD takeD at e
  split at e
  · exact e
  · split at e
    · exact e
    · exact absurd e failD_no
 obtain⟨h1,h2,h3⟩:=h h0
 have hn:=(name_next h0 e).2
 refine⟨h1.take 1 (by decide),?_,?_⟩ <;> rw[hn] <;> assumption
theorem Clr.need {T:List Tk} {r:RS} (h:Clr T r) (k:Int) (s:ByteArray) (hk:k≠5):Clr T (needD T k s r):=fun e=>by
 have h0:r.er=0:=by
  unfold needD at e
  split at e
  · exact e
  · exact absurd e failD_no
 obtain⟨h1,h2,h3⟩:=h h0
 refine⟨h1.need k s hk,?_,?_⟩ <;> (unfold needD at e ⊢;split at e;(rename_i w;rw[if_pos w];assumption);exact absurd e failD_no)
theorem Clr.step {T:List Tk} {r:RS} (h:Clr T r) (h0:r.er=0) {k:Int} {s:ByteArray} (hq:isTk T r.i k s=true) (hk:k≠5):Clr T { r with i:=r.i+1 }:=fun _=>by
 obtain⟨h1,h2,h3⟩:=h h0
 have:=isTk_in hq hk
 exact⟨⟨by show 0≤r.i+1;omega,by show r.i+1≤_;omega⟩,h2,h3⟩
end Go.Proofs.YthlofmnmacpogaaGreatDoor
