/- A part of a proof of DeclReadsProof. -/
import Derived.Test.YthlofmnmacpogaaGreatDoorRt45
import Derived.Test.YthlofmnmacpogaaGreatDoorRt42
import Derived.Test.YthlofmnmacpogaaGreatDoorRt43
import Derived.Test.YthlofmnmacpogaaGreatDoorRt44
import Derived.Test.YthlofmnmacpogaaGreatDoorRt33
import Derived.Test.YthlofmnmacpogaaGreatDoorRt21
set_option maxRecDepth 100000
set_option maxHeartbeats 40000000
namespace Go.Proofs.YthlofmnmacpogaaGreatDoor
open Go.RowKit
theorem kindN_at {s:ByteArray} {k:Nat} (h:kindL[k]?=some s):kindN s= (k:Int)+1:=by
 have hk:k < 8:=(List.getElem?_eq_some_iff.1 h).1
 have hc:k=0∨k=1∨k=2∨k=3∨k=4∨k=5∨k=6∨k=7:=by omega
 rcases hc with rfl|rfl|rfl|rfl|rfl|rfl|rfl|rfl <;> (obtain rfl:=Option.some.inj h;decide)
theorem kindN_no {s:ByteArray} (h:∀ j x,j < 8→kindL[j]?=some x→x≠s):kindN s=0:=by
 unfold kindN
 rw[if_neg (fun e=>h 0 _ (by omega) rfl e.symm),if_neg (fun e=>h 1 _ (by omega) rfl e.symm),if_neg (fun e=>h 2 _ (by omega) rfl e.symm),if_neg (fun e=>h 3 _ (by omega) rfl e.symm),if_neg (fun e=>h 4 _ (by omega) rfl e.symm),if_neg (fun e=>h 5 _ (by omega) rfl e.symm),if_neg (fun e=>h 6 _ (by omega) rfl e.symm),if_neg (fun e=>h 7 _ (by omega) rfl e.symm)]
theorem rdkind_any (s:ByteArray) (w:World) :
 Calls Tryz.prog 23 #[.string s] w fun e w'=>e=.returned (.int .i64 (kindN s))∧Below w.heap.size w w':=by
 obtain⟨W0,hW0⟩:∃ W,w.alloc (.cells #[.string ⟨#[97,116,116,114]⟩,.string ⟨#[117,115,101,114]⟩,.string ⟨#[114,111,108,101]⟩,.string ⟨#[115,116,97,103,101]⟩,.string ⟨#[101,118,101,110,116]⟩,.string ⟨#[103,117,97,114,100]⟩,.string ⟨#[109,105,108,101,115,116,111,110,101]⟩,.string ⟨#[115,111,100]⟩] 9)=W:=⟨_,rfl⟩
 have HR:Hid (NmRow W0 (.slice (some ⟨w.heap.size,0,none⟩) 8 8) kindL):=by
  rw[←hW0]
  exact⟨_,World.ownsRow_lit (e:=9) (size:=1) w #[.string ⟨#[97,116,116,114]⟩,.string ⟨#[117,115,101,114]⟩,.string ⟨#[114,111,108,101]⟩,.string ⟨#[115,116,97,103,101]⟩,.string ⟨#[101,118,101,110,116]⟩,.string ⟨#[103,117,97,114,100]⟩,.string ⟨#[109,105,108,101,115,116,111,110,101]⟩,.string ⟨#[115,111,100]⟩] 8 (Nat.le_refl _) (by decide) (by simp)⟩
 have HB:Hid (Below w.heap.size w W0):=by rw[←hW0];exact(Below.refl _ _).alloc (Nat.le_refl _) _
 go_enter Tryz.func23,Tryz.ntmps23
 go_wp2
 go_loopw [4] (fun i wr=>∃ k:Nat,i=.int .i64 k∧k≤8∧wr=W0∧Hid (∀ j x,j < k→kindL[j]?=some x→x≠s)) (fun i _=>8 - (intOf i).toNat)
 case atStart=>exact⟨0,by go_num,by omega,rfl,fun j x hj=>absurd hj (by omega)⟩
 case round=>
  obtain⟨k,rfl,hk,rfl,HNO⟩:=hrel
  by_cases hlt:k < 8
  · obtain⟨x,hx⟩:∃ x,kindL[k]?=some x:=⟨_,List.getElem?_eq_getElem (show k < kindL.length from hlt)⟩
    obtain⟨g,c1,hg,hgl,a0⟩:=HR.out.at hx
    have hg':g=w.heap.size:=by
     simp only[Value.slice.injEq,Option.some.injEq,Addr.mk.injEq] at hg
     exact hg.1.1.symm
    subst hg'
    clear hg hgl
    have hkz: (k:Int) < 8:=by omega
    have HX:=Lh hx
    by_cases hs:x=s
    · have htb: (x.toList == s.toList)=true:=by rw[bytes_beq];exact decide_eq_true hs
      have HK:Hid (kindN s= (k:Int)+1):=kindN_at (by rw[←hs];exact hx)
      clear hx hs
      go_wp2
      go_ret
      exact⟨by rw[HK.out];rfl,HB.out⟩
    · have htb: (x.toList == s.toList)=false:=by rw[bytes_beq];exact decide_eq_false hs
      have HN2:Hid (∀ j y,j < k+1→kindL[j]?=some y→y≠s):=fun j y hj hy=>by
       by_cases e:j=k
       · subst e
         obtain rfl:=Option.some.inj (hy.symm.trans HX.out)
         exact hs
       · exact HNO.out j y (by omega) hy
      clear hx hs
      go_wp2
      go_roundw
      case rel=>exact⟨k+1,by go_num,by omega,trivial,HN2⟩
      case measure=>simp[intOf];omega
  · have hkz:¬(k:Int) < 8:=by omega
    have HK:Hid (kindN s=0):=kindN_no (fun j x hj=>HNO.out j x (by omega))
    go_wp2
    go_ret
    exact⟨by rw[HK.out];rfl,HB.out⟩
theorem rdrest_any {w:World} {B:Nat} {lv:Value} {T:List Tk} (h:TkIn w B lv T) (hB:B≤w.heap.size) (r:RS) {nv iv:Value} (hnm:NmRow w nv r.x.names) (hit:ItRow w iv r.x.ifs) (hc:Clr T r) (he:r.er=0) (hx0:r.x.names= []) (hfin:r.x.final=false) (hk:r.x.kind=1∨r.x.kind=2∨r.x.kind=3∨r.x.kind=4∨r.x.kind=5∨r.x.kind=6∨r.x.kind=7) :
 Calls Tryz.prog 27 #[lv,pvV r nv iv] w (RdP w (restR T r.x.kind r)):=by
 rcases hk with e|e|e|e|e|e|e
 · rw[show restR T r.x.kind r=atR T r by rw[e];rfl];exact rdrest_attr h hB r hnm hit hc e he hx0
 · rw[show restR T r.x.kind r=r by rw[e];rfl];exact rdrest_user h hB r hnm hit hc e he hx0
 · rw[show restR T r.x.kind r=roR T r by rw[e];rfl];exact rdrest_role h hB r hnm hit hc e he hx0
 · rw[show restR T r.x.kind r=stR T r by rw[e];rfl];exact rdrest_stage h hB r hnm hit hc e he hx0
 · rw[show restR T r.x.kind r=evR T r by rw[e];rfl];exact rdrest_event h hB r hnm hit hc e he hx0
 · rw[show restR T r.x.kind r=sentryD T r by rw[e];rfl];exact rdrest_guard h hB r hnm hit hc e he hx0
 · rw[show restR T r.x.kind r=miR T r by rw[e];rfl];exact rdrest_mile h hB r hnm hit hc e he hx0 hfin
theorem need_bad {T:List Tk} {k:Int} {s:ByteArray} {r:RS} (h:r.er≠0):needD T k s r=r:=by
 unfold needD failD
 rw[if_neg (by rw[mayB_bad h];decide),if_neg h]
theorem may_bad {T:List Tk} {k:Int} {s:ByteArray} {r:RS} (h:r.er≠0):mayD T k s r=r:=by
 unfold mayD
 rw[if_neg (by rw[mayB_bad h];decide)]
theorem sentry_bad {T:List Tk} {r:RS} (h:r.er≠0):sentryD T r=r:=by
 have:onD T r=r:=by unfold onD;rw[if_neg (by rw[mayB_bad h];decide)]
 unfold sentryD;rw[this,if_neg (by rw[mayB_bad h];decide)]
theorem rest_bad (T:List Tk) (k:Int) {r:RS} (h:r.er≠0):EqR r (restR T k r):=by
 unfold restR
 split
 · unfold atR
   rw[need_bad h,(num_bad h).1,(num_bad h).2]
   exact⟨rfl,rfl,rfl,fun e=>absurd e h⟩
 split
 · exact EqR.refl _
 split
 · unfold roR
   rw[need_bad h]
   exact role_bad h
 split
 · unfold stR
   rw[if_neg (by rw[mayB_bad h];decide)]
   exact EqR.refl _
 split
 · have h1:evR5 T r=setStage ⟨#[]⟩ (setRole ⟨#[]⟩ r):=by
    unfold evR5
    dsimp only
    rw[need_bad h,(name_bad h).1,(name_bad h).2,need_bad (show(setRole ⟨#[]⟩ r).er≠0 from h),(name_bad (show(setRole ⟨#[]⟩ r).er≠0 from h)).1,(name_bad (show(setRole ⟨#[]⟩ r).er≠0 from h)).2]
   have h2: (setStage ⟨#[]⟩ (setRole ⟨#[]⟩ r)).er≠0:=h
   unfold evR evR6
   rw[h1,if_neg (by rw[mayB_bad h2];decide)]
   unfold evR7
   rw[if_neg (by rw[mayB_bad h2];decide)]
   exact⟨rfl,rfl,rfl,fun e=>absurd e h⟩
 split
 · rw[sentry_bad h];exact EqR.refl _
 · unfold miR miR3
   rw[need_bad h,(name_bad h).1,(name_bad h).2,sentry_bad (show(setStage ⟨#[]⟩ r).er≠0 from h),may_bad (show(setStage ⟨#[]⟩ r).er≠0 from h)]
   exact⟨rfl,rfl,rfl,fun e=>absurd e h⟩
theorem rule_first (T:List Tk) (k:Int) (r:RS) (hk:r.x.kind=k) (h:k=1∨k=2∨k=3∨k=4∨k=5∨k=6∨k=7):ruleD T k r=restR T k (firstR T r):=by
 rcases h with e|e|e|e|e|e|e
 · subst e;rw[show firstR T r=setName (nameV T r) (nameD T r) by unfold firstR;rw[hk];rfl];rfl
 · subst e;rw[show firstR T r=setName (nameV T r) (nameD T r) by unfold firstR;rw[hk];rfl];rfl
 · subst e;rw[show firstR T r=setName (nameV T r) (nameD T r) by unfold firstR;rw[hk];rfl];rfl
 · subst e;rw[show firstR T r=setName (nameV T r) (nameD T r) by unfold firstR;rw[hk];rfl];rfl
 · subst e;rw[show firstR T r=setName (nameV T r) (nameD T r) by unfold firstR;rw[hk];rfl];rfl
 · subst e;rw[show firstR T r=setStage (nameV T r) (nameD T r) by unfold firstR;rw[hk];rfl];rfl
 · subst e;rw[show firstR T r=setName (nameV T r) (nameD T r) by unfold firstR;rw[hk];rfl];rfl
theorem inD_rule {T:List Tk} {r:RS} (k:Int) (h:InD T r):InD T (ruleD T k r):=by
 unfold ruleD
 split
 · exact inD_attr h
 split
 · exact inD_user h
 split
 · exact inD_role h
 split
 · exact inD_stage h
 split
 · exact inD_event h
 split
 · exact inD_guard h
 split
 · exact inD_mile h
 · exact inD_sod h
def RdOne (w:World) (p:DR) (e:Ending) (w':World):Prop:=
 match p with
 | .ok x a=>∃ nv iv,e=.returned (.tuple #[stV x nv iv,.int .i64 a,.agg #[.int .i64 0,.int .i64 0,.int .i64 0]])∧NmRow w' nv x.names∧ItRow w' iv x.ifs∧Below w.heap.size w w'
 | .bad er l c=>e=.returned (.tuple #[stV noSt (.slice none 0 0) (.slice none 0 0),.int .i64 0,.agg #[.int .i64 er,.int .i64 l,.int .i64 c]])∧Below w.heap.size w w'
structure RS1 (w W:World) (b:Nat):Prop where
 st:StB W w.heap.size noSt (.slice none 0 0) (.slice none 0 0)
 ft:FtB W (w.heap.size+1) 0 0 0
 lo:Below w.heap.size w W
 lt:w.heap.size+1 < b
theorem RS1.below {w W W':World} {b:Nat} (h:RS1 w W b) (hb:Below W.heap.size W W'):RS1 w W' b:=⟨h.st.below hb,h.ft.below hb,h.lo.trans (hb.mono h.lo.size),h.lt⟩
theorem RS1.kept {w W W':World} {b:Nat} (h:RS1 w W b) (k:KeptP W W' b):RS1 w W' b:=
 ⟨(k.block _ (by have:=h.lt;omega)).trans h.st,(k.block _ (by have:=h.lt;omega)).trans h.ft,k.below h.lo (by have:=h.lt;omega),h.lt⟩
theorem RS1.done {w W:World} {b:Nat} (h:RS1 w W b) (y:St) (nv2 iv2:Value) (e l c:Int) :
 StB (((((((((((((((W.setCell ⟨w.heap.size,0,none⟩ (.int .i64 y.kind)).setCell ⟨w.heap.size,1,none⟩ (.string y.name)).setCell ⟨w.heap.size,2,none⟩ (.int .i64 y.line)).setCell ⟨w.heap.size,3,none⟩ (.int .i64 y.col)).setCell ⟨w.heap.size,4,none⟩ (.int .i64 y.init)).setCell ⟨w.heap.size,5,none⟩ nv2).setCell ⟨w.heap.size,6,none⟩ (.string y.role)).setCell ⟨w.heap.size,7,none⟩ (.string y.stage)).setCell ⟨w.heap.size,8,none⟩ (.string y.event)).setCell ⟨w.heap.size,9,none⟩ (.int .i64 y.times)).setCell ⟨w.heap.size,10,none⟩ iv2).setCell ⟨w.heap.size,11,none⟩ (.bool y.final)).setCell ⟨w.heap.size+1,0,none⟩ (.int .i64 e)).setCell ⟨w.heap.size+1,1,none⟩ (.int .i64 l)).setCell ⟨w.heap.size+1,2,none⟩ (.int .i64 c)) w.heap.size y nv2 iv2∧FtB (((((((((((((((W.setCell ⟨w.heap.size,0,none⟩ (.int .i64 y.kind)).setCell ⟨w.heap.size,1,none⟩ (.string y.name)).setCell ⟨w.heap.size,2,none⟩ (.int .i64 y.line)).setCell ⟨w.heap.size,3,none⟩ (.int .i64 y.col)).setCell ⟨w.heap.size,4,none⟩ (.int .i64 y.init)).setCell ⟨w.heap.size,5,none⟩ nv2).setCell ⟨w.heap.size,6,none⟩ (.string y.role)).setCell ⟨w.heap.size,7,none⟩ (.string y.stage)).setCell ⟨w.heap.size,8,none⟩ (.string y.event)).setCell ⟨w.heap.size,9,none⟩ (.int .i64 y.times)).setCell ⟨w.heap.size,10,none⟩ iv2).setCell ⟨w.heap.size,11,none⟩ (.bool y.final)).setCell ⟨w.heap.size+1,0,none⟩ (.int .i64 e)).setCell ⟨w.heap.size+1,1,none⟩ (.int .i64 l)).setCell ⟨w.heap.size+1,2,none⟩ (.int .i64 c)) (w.heap.size+1) e l c∧Below w.heap.size w (((((((((((((((W.setCell ⟨w.heap.size,0,none⟩ (.int .i64 y.kind)).setCell ⟨w.heap.size,1,none⟩ (.string y.name)).setCell ⟨w.heap.size,2,none⟩ (.int .i64 y.line)).setCell ⟨w.heap.size,3,none⟩ (.int .i64 y.col)).setCell ⟨w.heap.size,4,none⟩ (.int .i64 y.init)).setCell ⟨w.heap.size,5,none⟩ nv2).setCell ⟨w.heap.size,6,none⟩ (.string y.role)).setCell ⟨w.heap.size,7,none⟩ (.string y.stage)).setCell ⟨w.heap.size,8,none⟩ (.string y.event)).setCell ⟨w.heap.size,9,none⟩ (.int .i64 y.times)).setCell ⟨w.heap.size,10,none⟩ iv2).setCell ⟨w.heap.size,11,none⟩ (.bool y.final)).setCell ⟨w.heap.size+1,0,none⟩ (.int .i64 e)).setCell ⟨w.heap.size+1,1,none⟩ (.int .i64 l)).setCell ⟨w.heap.size+1,2,none⟩ (.int .i64 c)):=by
 have hs:=h.st.stored y nv2 iv2
 have hf:FtB ((((((((((((W.setCell ⟨w.heap.size,0,none⟩ (.int .i64 y.kind)).setCell ⟨w.heap.size,1,none⟩ (.string y.name)).setCell ⟨w.heap.size,2,none⟩ (.int .i64 y.line)).setCell ⟨w.heap.size,3,none⟩ (.int .i64 y.col)).setCell ⟨w.heap.size,4,none⟩ (.int .i64 y.init)).setCell ⟨w.heap.size,5,none⟩ nv2).setCell ⟨w.heap.size,6,none⟩ (.string y.role)).setCell ⟨w.heap.size,7,none⟩ (.string y.stage)).setCell ⟨w.heap.size,8,none⟩ (.string y.event)).setCell ⟨w.heap.size,9,none⟩ (.int .i64 y.times)).setCell ⟨w.heap.size,10,none⟩ iv2).setCell ⟨w.heap.size,11,none⟩ (.bool y.final)) (w.heap.size+1) 0 0 0:=
  (((((((((((h.ft.over1 (by omega) _).over1 (by omega) _).over1 (by omega) _).over1 (by omega) _).over1 (by omega) _).over1 (by omega) _).over1 (by omega) _).over1 (by omega) _).over1 (by omega) _).over1 (by omega) _).over1 (by omega) _).over1 (by omega) _
 exact⟨((hs.over (by omega) _).over (by omega) _).over (by omega) _,hf.stored e l c,below_fault (below_st h.lo (Nat.le_refl _) _ _ _ _ _ _ _ _ _ _ _ _) (by omega) _ _ _⟩
theorem row_done {w W:World} {b:Nat} (h:RS1 w W b) (y:St) (nv2 iv2:Value) (e l c:Int) {base sz n:Nat} {t:TypeId} {v:Value} {xs:List Value} (h1:37≠t) (h2:28≠t) (hr:W.ownsRow base t sz v n xs): (((((((((((((((W.setCell ⟨w.heap.size,0,none⟩ (.int .i64 y.kind)).setCell ⟨w.heap.size,1,none⟩ (.string y.name)).setCell ⟨w.heap.size,2,none⟩ (.int .i64 y.line)).setCell ⟨w.heap.size,3,none⟩ (.int .i64 y.col)).setCell ⟨w.heap.size,4,none⟩ (.int .i64 y.init)).setCell ⟨w.heap.size,5,none⟩ nv2).setCell ⟨w.heap.size,6,none⟩ (.string y.role)).setCell ⟨w.heap.size,7,none⟩ (.string y.stage)).setCell ⟨w.heap.size,8,none⟩ (.string y.event)).setCell ⟨w.heap.size,9,none⟩ (.int .i64 y.times)).setCell ⟨w.heap.size,10,none⟩ iv2).setCell ⟨w.heap.size,11,none⟩ (.bool y.final)).setCell ⟨w.heap.size+1,0,none⟩ (.int .i64 e)).setCell ⟨w.heap.size+1,1,none⟩ (.int .i64 l)).setCell ⟨w.heap.size+1,2,none⟩ (.int .i64 c)).ownsRow base t sz v n xs:=by
 refine⟨hr.1,?_⟩
 rcases hr.2 with h0| ⟨g,cap,cur,hv,hb,hg,rest⟩
 · exact .inl h0
 · have n1:g≠w.heap.size:=by
    rintro rfl
    have:=h.st
    unfold StB at this
    rw[this] at hg
    simp only[Option.some.injEq,Obj.cells.injEq] at hg
    exact h1 hg.2.1
   have n2:g≠w.heap.size+1:=by
    rintro rfl
    have:=h.ft
    unfold FtB at this
    rw[this] at hg
    simp only[Option.some.injEq,Obj.cells.injEq] at hg
    exact h2 hg.2.1
   refine .inr ⟨g,cap,cur,hv,hb,?_,rest⟩
   rw[Below.heap_setCell _ _ _ _ n2,Below.heap_setCell _ _ _ _ n2,Below.heap_setCell _ _ _ _ n2,Below.heap_setCell _ _ _ _ n1,Below.heap_setCell _ _ _ _ n1,Below.heap_setCell _ _ _ _ n1,Below.heap_setCell _ _ _ _ n1,Below.heap_setCell _ _ _ _ n1,Below.heap_setCell _ _ _ _ n1,Below.heap_setCell _ _ _ _ n1,Below.heap_setCell _ _ _ _ n1,Below.heap_setCell _ _ _ _ n1,Below.heap_setCell _ _ _ _ n1,Below.heap_setCell _ _ _ _ n1,Below.heap_setCell _ _ _ _ n1]
   exact hg
theorem oneR_results {W:World} {tmps:Array Value} {b f:Nat} {x:St} {nv iv:Value} {e l c:Int} (hs:StB W b x nv iv) (hf:FtB W f e l c) (at_:Int) (h4:tmps[4]?.getD undef=.pointer (some ⟨b,0,none⟩)) (h5:tmps[5]?.getD undef=.int .i64 at_) (h6:tmps[6]?.getD undef=.pointer (some ⟨f,0,none⟩)) :
 (results Tryz.f12 tmps).run Tryz.prog W=.ok (.tuple #[stV x nv iv,.int .i64 at_,.agg #[.int .i64 e,.int .i64 l,.int .i64 c]]) W:=by
 obtain⟨q0,q1,q2,q3,q4,q5,q6,q7,q8,q9,q10,q11⟩:=hs.facts
 obtain⟨u0,u1,u2⟩:=hf.facts
 simp[results,Tryz.results12,go_sem,h4,h5,h6,q0,q1,q2,q3,q4,q5,q6,q7,q8,q9,q10,q11,u0,u1,u2,stV]
def LC (a b:RS):Prop:=b.er=0→a.er=0∧b.line=a.line∧b.col=a.col
theorem LC.refl (a:RS):LC a a:=fun h=>⟨h,rfl,rfl⟩
theorem LC.trans {a b c:RS} (h:LC a b) (h2:LC b c):LC a c:=fun e=>by
 obtain⟨e1,e2,e3⟩:=h2 e
 obtain⟨f1,f2,f3⟩:=h e1
 exact⟨f1,e2.trans f2,e3.trans f3⟩
theorem lc_need (T:List Tk) (k:Int) (s:ByteArray) (r:RS):LC r (needD T k s r):=fun e=>by
 unfold needD at e ⊢
 split at e
 · rename_i w;rw[if_pos w];exact⟨e,rfl,rfl⟩
 · exact absurd e failD_no
theorem lc_take (T:List Tk) (k:Int) (r:RS):LC r (takeD T k r):=fun e=>by
 unfold takeD at e ⊢
 split at e
 · rename_i w;rw[if_pos w];exact⟨e,rfl,rfl⟩
 · rename_i w
   rw[if_neg w]
   split at e
   · rename_i w2;rw[if_pos w2];exact⟨e,rfl,rfl⟩
   · exact absurd e failD_no
theorem lc_may (T:List Tk) (k:Int) (s:ByteArray) (r:RS):LC r (mayD T k s r):=fun e=>by
 unfold mayD at e ⊢
 split at e
 · rename_i w;rw[if_pos w];exact⟨e,rfl,rfl⟩
 · rename_i w;rw[if_neg w];exact⟨e,rfl,rfl⟩
theorem lc_more (T:List Tk) (r:RS):LC r (moreD T r):=fun e=>lc_take T 1 r e
theorem lc_roleL (T:List Tk):∀ (k:Nat) (r:RS),LC r (roleL T k r)
 | 0,r=>LC.refl r
 | k+1,r=>by
   rw[roleL]
   split
   · exact(lc_more T r).trans (lc_roleL T k _)
   · exact LC.refl r
theorem lc_setsL (T:List Tk):∀ (k:Nat) (r:RS),LC r (setsL T k r)
 | 0,r=>LC.refl r
 | k+1,r=>by
   rw[setsL]
   split
   · exact((lc_may T 4 sComma r).trans (lc_more T _)).trans (lc_setsL T k _)
   · exact LC.refl r
theorem lc_times (T:List Tk) (r:RS):LC r (timesD T r):=fun e=>by
 unfold timesD at e ⊢
 dsimp only at e ⊢
 by_cases h: (tkAt T r.i).kind=3∧((tkAt T r.i).num < 1∨3 < (tkAt T r.i).num)
 · rw[if_pos h] at e
   have e2:=(lc_take T 3 (failD T 11 r) e).1
   exact absurd e2 (failD_er T (by decide) r)
 · rw[if_neg h] at e ⊢
   exact lc_take T 3 r e
theorem lc_on (T:List Tk) (r:RS):LC r (onD T r):=by
 unfold onD
 split
 · exact(lc_may T 2 wOn r).trans (fun e=>lc_take T 1 _ e)
 · exact LC.refl r
theorem lc_sentry (T:List Tk) (r:RS):LC r (sentryD T r):=by
 unfold sentryD
 split
 · refine((lc_on T r).trans (lc_may T 2 wIf _)).trans ?_
   unfold ifD
   split
   · exact fun e=>⟨e,rfl,rfl⟩
   · rename_i h
     exact fun e=>absurd e (readD_no h)
 · exact lc_on T r
theorem lc_rest (T:List Tk) (k:Int) (r:RS):LC r (restR T k r):=by
 unfold restR
 split
 · exact(lc_need T 4 sEq r).trans (fun e=>lc_take T 3 _ e)
 split
 · exact LC.refl r
 split
 · exact((lc_need T 4 sEq r).trans (lc_more T _)).trans (lc_roleL T _ _)
 split
 · unfold stR
   split
   · exact(lc_may T 2 wIn r).trans (fun e=>lc_take T 1 _ e)
   · exact LC.refl r
 split
 · unfold evR
   have h5:LC r (evR5 T r):=by
    unfold evR5
    exact(((lc_need T 2 wBy r).trans (fun e=>lc_take T 1 _ e)).trans (lc_need T 2 wIn (setRole (nameV T (needD T 2 wBy r)) (nameD T (needD T 2 wBy r))))).trans (fun e=>lc_take T 1 _ e)
   have h6:LC (evR5 T r) (evR6 T (evR5 T r)):=by
    generalize evR5 T r=q
    unfold evR6
    split
    · exact((lc_may T 2 wSets q).trans (lc_more T _)).trans (lc_setsL T _ _)
    · exact LC.refl q
   have h7:LC (evR6 T (evR5 T r)) (evR7 T (evR6 T (evR5 T r))):=by
    generalize evR6 T (evR5 T r)=q
    unfold evR7
    split
    · exact(lc_may T 2 wMax q).trans (lc_times T _)
    · exact LC.refl q
   exact(h5.trans h6).trans h7
 split
 · exact lc_sentry T r
 · unfold miR
   have h3:LC r (miR3 T r):=by
    unfold miR3
    exact((lc_need T 2 wOf r).trans (fun e=>lc_take T 1 _ e)).trans (lc_sentry T (setStage (nameV T (needD T 2 wOf r)) (nameD T (needD T 2 wOf r))))
   exact h3.trans (fun e=>lc_may T 2 wFinal _ e)
theorem rest_clr {T:List Tk} {k:Int} {r:RS} (h:Clr T r) (h0:r.er=0) (e: (restR T k r).er=0): (restR T k r).line=0∧(restR T k r).col=0:=by
 obtain⟨_,e2,e3⟩:=lc_rest T k r e
 exact⟨e2.trans (h h0).2.1,e3.trans (h h0).2.2⟩
end Go.Proofs.YthlofmnmacpogaaGreatDoor
