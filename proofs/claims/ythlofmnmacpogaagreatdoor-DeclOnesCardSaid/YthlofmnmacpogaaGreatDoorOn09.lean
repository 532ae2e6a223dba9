/- A part of a proof: 'warder/warderlaw07.DeclOnes' returns true for every input and leaves its arguments as they were; no condition. The row lists package-level variables of Go's library with what they hold at the start; the card ties them to the program's text. -/
import Derived.Test.YthlofmnmacpogaaGreatDoorOn04
import Derived.Test.YthlofmnmacpogaaGreatDoorOn07
import Derived.Test.YthlofmnmacpogaaGreatDoorOn08
import Derived.Test.YthlofmnmacpogaaGreatDoorOn01
import Derived.Deep.RegionLaw
namespace Go.Proofs.YthlofmnmacpogaaGreatDoor
open Go.RowKit
def Good3 (one:Int→PR):Prop:=∀ i e l c,one i=.bad e l c→e≠0
theorem also_no {p:PR} {f:List It→Int→PR} {e l c:Int} (h:p.also f=.bad e l c):p=.bad e l c∨∃ o1 a1,p=.ok o1 a1∧f o1 a1=.bad e l c:=by
 cases p with
 | ok o1 a1=>exact .inr ⟨o1,a1,rfl,h⟩
 | bad er l' c'=>exact .inl h
theorem badP_no {T:List Tk} {i er e l c:Int} (h:badP T i er=.bad e l c) (h0:er≠0):e≠0:=by
 unfold badP at h
 simp only[PR.bad.injEq] at h
 omega
theorem need_no {T:List Tk} {i kind:Int} {s:ByteArray} {f:Int→PR} {e l c:Int} (h:needP T i kind s f=.bad e l c):e≠0∨f (i+1)=.bad e l c:=by
 unfold needP at h
 split at h
 · exact .inr h
 · exact .inl (badP_no h (by decide))
theorem rowP_no {T:List Tk} {one:Int→PR} (h:Good3 one) (wd:ByteArray) (op:Int):∀ (k:Nat) (i:Int) (out:List It) (e l c:Int),rowP T one wd op k i out=.bad e l c→e≠0
 | 0,i,out,e,l,c,he=>by cases he
 | k+1,i,out,e,l,c,he=>by
   rw[rowP] at he
   split at he
   · rcases also_no he with he| ⟨o1,a1,_,he⟩
     · exact h _ _ _ _ he
     · exact rowP_no h wd op k _ _ _ _ _ he
   · cases he
theorem rowsP_no {T:List Tk} {one:Int→PR} (h:Good3 one) (wd:ByteArray) (op:Int):Good3 (rowsP T one wd op):=by
 intro i e l c he
 rcases also_no he with he| ⟨o1,a1,_,he⟩
 · exact h _ _ _ _ he
 · exact rowP_no h wd op _ _ _ _ _ _ he
theorem compP_no (T:List Tk):Good3 (compP T):=by
 intro i e l c he
 unfold compP at he
 repeat' split at he
 all_goals first|exact badP_no he (by decide)|cases he
theorem namedP_no (T:List Tk) (i op e l c:Int) (he:namedP T i op=.bad e l c):e≠0:=by
 unfold namedP at he
 split at he
 · cases he
 · exact badP_no he (by decide)
theorem didP_no (T:List Tk) (i e l c:Int) (he:didP T i=.bad e l c):e≠0:=by
 unfold didP at he
 repeat' split at he
 all_goals first|exact badP_no he (by decide)|cases he
theorem atomP_no (T:List Tk) (prop:Bool) (i e l c:Int) (he:atomP T prop i=.bad e l c):e≠0:=by
 unfold atomP at he
 repeat' split at he
 all_goals first|exact badP_no he (by decide)|exact namedP_no _ _ _ _ _ _ he|exact didP_no _ _ _ _ _ he|cases he
theorem untilP_no {T:List Tk} {form:Int→PR} (h:Good3 form) (op i e l c:Int) (he:untilP T form op i=.bad e l c):e≠0:=by
 unfold untilP at he
 rcases need_no he with he|he
 · exact he
 rcases also_no he with he| ⟨o1,a1,_,he⟩
 · exact h _ _ _ _ he
 rcases need_no he with he|he
 · exact he
 rcases also_no he with he| ⟨o2,a2,_,he⟩
 · exact h _ _ _ _ he
 rcases need_no he with he|he
 · exact he
 cases he
theorem signP_no {T:List Tk} {prop:Bool} {sg form:Int→PR} (hs:Good3 sg) (hf:Good3 form):Good3 (signP T prop sg form):=by
 intro i e l c he
 unfold signP at he
 split at he
 · rcases also_no he with he| ⟨o1,a1,_,he⟩
   · exact hf _ _ _ _ he
   rcases need_no he with he|he
   · exact he
   cases he
 split at he
 · exact compP_no T i e l c he
 split at he
 · rcases also_no he with he| ⟨o1,a1,_,he⟩
   · exact hs _ _ _ _ he
   cases he
 split at he
 · exact badP_no he (by decide)
 split at he
 · exact untilP_no hf _ _ _ _ _ he
 split at he
 · exact untilP_no hf _ _ _ _ _ he
 split at he
 · exact atomP_no T prop i e l c he
 · rcases also_no he with he| ⟨o1,a1,_,he⟩
   · exact hs _ _ _ _ he
   cases he
theorem formP_no {T:List Tk} {sg form:Int→PR} (hs:Good3 sg) (hf:Good3 form):Good3 (formP T sg form):=by
 intro i e l c he
 unfold formP at he
 rcases also_no he with he| ⟨o1,a1,_,he⟩
 · exact rowsP_no (rowsP_no hs wAnd 16) wOr 17 _ _ _ _ he
 split at he
 · rcases also_no he with he| ⟨o2,a2,_,he⟩
   · exact hf _ _ _ _ he
   cases he
 · cases he
theorem both_no (T:List Tk) (prop:Bool):∀ n,Good3 (bothP T prop n).1∧Good3 (bothP T prop n).2
 | 0=>⟨fun i e l c h=>badP_no (show badP T i 5=.bad e l c from h) (by decide),fun i e l c h=>badP_no (show badP T i 5=.bad e l c from h) (by decide)⟩
 | n+1=>by
   have ih:=both_no T prop n
   have hs:=signP_no (T:=T) (prop:=prop) ih.1 ih.2
   exact⟨hs,formP_no hs ih.2⟩
end Go.Proofs.YthlofmnmacpogaaGreatDoor
namespace Go.Proofs.YthlofmnmacpogaaGreatDoor
open Go.RowKit
def InD (T:List Tk) (r:RS):Prop:=0≤r.i∧r.i≤(T.length:Int)
theorem mayB_is {T:List Tk} {k:Int} {s:ByteArray} {r:RS} (h:mayB T k s r=true):r.er=0∧isTk T r.i k s=true:=by
 unfold mayB at h
 simp only[Bool.and_eq_true,decide_eq_true_eq] at h
 exact h
theorem kindB_is {T:List Tk} {k:Int} {r:RS} (h:kindB T k r=true):r.er=0∧(tkAt T r.i).kind=k:=by
 unfold kindB at h
 simp only[Bool.and_eq_true,decide_eq_true_eq] at h
 exact⟨h.2,h.1⟩
theorem failD_i (T:List Tk) (e:Int) (r:RS): (failD T e r).i=r.i∧(failD T e r).x=r.x:=by
 unfold failD;split <;> exact⟨rfl,rfl⟩
theorem failD_er (T:List Tk) {e:Int} (he:e≠0) (r:RS): (failD T e r).er≠0:=by
 unfold failD;split
 · exact he
 · rename_i h;exact h
theorem InD.fail {T:List Tk} {r:RS} (h:InD T r) (e:Int):InD T (failD T e r):=by unfold InD;rw[(failD_i T e r).1];exact h
theorem InD.may {T:List Tk} {r:RS} (h:InD T r) (k:Int) (s:ByteArray) (hk:k≠5):InD T (mayD T k s r):=by
 unfold mayD
 split
 · rename_i q
   have:=isTk_in (mayB_is q).2 hk
   unfold InD;dsimp only;omega
 · exact h
theorem InD.need {T:List Tk} {r:RS} (h:InD T r) (k:Int) (s:ByteArray) (hk:k≠5):InD T (needD T k s r):=by
 unfold needD
 split
 · rename_i q
   have:=isTk_in (mayB_is q).2 hk
   unfold InD;dsimp only;omega
 · exact h.fail 4
theorem InD.take {T:List Tk} {r:RS} (h:InD T r) (k:Int) (hk:k≠5):InD T (takeD T k r):=by
 unfold takeD
 split
 · rename_i q
   have:=tkAt_in (T:=T) (i:=r.i) (by rw[(kindB_is q).2];exact hk)
   unfold InD;dsimp only;omega
 · split
   · exact h
   · exact h.fail 4
theorem InD.name {T:List Tk} {r:RS} (h:InD T r):InD T (nameD T r):=h.take 1 (by decide)
theorem InD.num {T:List Tk} {r:RS} (h:InD T r):InD T (numD T r):=h.take 3 (by decide)
theorem may_x (T:List Tk) (k:Int) (s:ByteArray) (r:RS): (mayD T k s r).x=r.x:=by unfold mayD;split <;> rfl
theorem need_x (T:List Tk) (k:Int) (s:ByteArray) (r:RS): (needD T k s r).x=r.x:=by
 unfold needD;split
 · rfl
 · exact(failD_i T 4 r).2
theorem take_x (T:List Tk) (k:Int) (r:RS): (takeD T k r).x=r.x:=by
 unfold takeD;split
 · rfl
 · split
   · rfl
   · exact(failD_i T 4 r).2
theorem may_up (T:List Tk) (k:Int) (s:ByteArray) (r:RS):r.i≤(mayD T k s r).i:=by
 unfold mayD;split
 · dsimp only;omega
 · exact Int.le_refl _
theorem need_up (T:List Tk) (k:Int) (s:ByteArray) (r:RS):r.i≤(needD T k s r).i:=by
 unfold needD;split
 · dsimp only;omega
 · rw[(failD_i T 4 r).1];exact Int.le_refl _
theorem take_up (T:List Tk) (k:Int) (r:RS):r.i≤(takeD T k r).i:=by
 unfold takeD;split
 · dsimp only;omega
 · split
   · exact Int.le_refl _
   · rw[(failD_i T 4 r).1];exact Int.le_refl _
theorem take_next {T:List Tk} {k:Int} {r:RS} (h:kindB T k r=true): (takeD T k r).i=r.i+1:=by unfold takeD;rw[if_pos h]
theorem may_next {T:List Tk} {k:Int} {s:ByteArray} {r:RS} (h:mayB T k s r=true): (mayD T k s r).i=r.i+1:=by unfold mayD;rw[if_pos h]
end Go.Proofs.YthlofmnmacpogaaGreatDoor
namespace Go.Proofs.YthlofmnmacpogaaGreatDoor
open Go.RowKit
theorem bndD {T:List Tk} {r:RS} (h:InD T r) (hT:T.length≤1000000):-9223372036854775808≤r.i∧r.i≤2000000:=by
 unfold InD at h;omega
set_option maxRecDepth 100000 in
set_option maxHeartbeats 2000000 in
theorem dattr_any {w:World} {B b:Nat} {lv nv iv:Value} {T:List Tk} {r:RS} (h:Dr w B b lv nv iv T r) (hB:B≤w.heap.size) (hi:InD T r) :
 Calls Tryz.prog 37 #[.pointer (some ⟨b,0,none⟩)] w fun en w'=>en=.returned (.tuple #[])∧DT w w' B b lv nv iv T (attrD T r):=by
 have hTl:T.length≤1000000:=by obtain⟨_,_,_,hl,_⟩:=h.tk;exact hl
 have HC0:=Lib.hid (DT.of_rd h)
 have HI0:=Lib.hid hi
 clear h hi
 go_enter Tryz.func37,Tryz.ntmps37
 obtain⟨r1,hr1⟩:∃ q,nameD T r=q:=⟨_,rfl⟩
 have HN1:=Lib.hid hr1
 have HI1:=Lib.hid (show InD T r1 by rw[←hr1];exact HI0.out.name)
 clear hr1
 obtain⟨s1,hs1⟩:∃ q,nameV T r=q:=⟨_,rfl⟩
 have HS1:=Lib.hid hs1
 clear hs1
 go_wp2_with fail
 refine(dname_any HC0.out.rd (HC0.out.size hB) (bndD HI0.out hTl).1 (bndD HI0.out hTl).2).mono ?_
 rw[HS1.out,HN1.out]
 rintro en w1 ⟨rfl,hc⟩
 have HC1:=Lib.hid (HC0.out.trans hc)
 clear hc
 obtain⟨_,_,_,c3,_,_,_,_,_,_,_,_,_,_,_,_,_⟩:=HC1.out.rd.facts
 obtain⟨_,_,_,f3,_,_,_,_,_,_,_,_,_,_,_,_,_⟩:=HC1.out.rd.free
 have HD1:=Lib.hid (HC1.out.setName s1)
 have HJ1:=Lib.hid (show InD T (setName s1 r1) from HI1.out)
 obtain⟨r2,hr2⟩:∃ q,needD T 4 sEq (setName s1 r1)=q:=⟨_,rfl⟩
 have HN2:=Lib.hid hr2
 have HI2:=Lib.hid (show InD T r2 by rw[←hr2];exact HJ1.out.need 4 sEq (by decide))
 clear hr2
 go_wp2_with fail
 refine(dneed_any HD1.out.rd (HD1.out.size hB) 4 sEq (bndD HJ1.out hTl).1 (bndD HJ1.out hTl).2).mono ?_
 rw[HN2.out]
 rintro en w2 ⟨rfl,hc⟩
 have HC2:=Lib.hid (HD1.out.trans hc)
 clear hc
 obtain⟨r3,hr3⟩:∃ q,numD T r2=q:=⟨_,rfl⟩
 have HN3:=Lib.hid hr3
 have HI3:=Lib.hid (show InD T r3 by rw[←hr3];exact HI2.out.num)
 clear hr3
 obtain⟨s3,hs3⟩:∃ q,numW T r2=q:=⟨_,rfl⟩
 have HS3:=Lib.hid hs3
 clear hs3
 go_wp2_with fail
 refine(dnum_any HC2.out.rd (HC2.out.size hB) (bndD HI2.out hTl).1 (bndD HI2.out hTl).2).mono ?_
 rw[HS3.out,HN3.out]
 rintro en w3 ⟨rfl,hc⟩
 have HC3:=Lib.hid (HC2.out.trans hc)
 clear hc
 obtain⟨_,_,_,_,_,_,c6,_,_,_,_,_,_,_,_,_,_⟩:=HC3.out.rd.facts
 obtain⟨_,_,_,_,_,_,f6,_,_,_,_,_,_,_,_,_,_⟩:=HC3.out.rd.free
 have HD3:=Lib.hid (HC3.out.setInit s3)
 have HJ3:=Lib.hid (show InD T (setInit s3 r3) from HI3.out)
 go_wp2
 first
 | go_end0
 | ((try simp only[Exit.inBlock,Exit.then]);refine bodyPost_ret (results_none rfl _ _ _) rfl ?_)
 exact⟨rfl,by
  have e:attrD T r= (setInit s3 r3):=by simp only[attrD,HN1.out,HS1.out,HN2.out,HN3.out,HS3.out]
  rw[e];exact HD3.out⟩
set_option maxRecDepth 100000 in
set_option maxHeartbeats 2000000 in
theorem duser_any {w:World} {B b:Nat} {lv nv iv:Value} {T:List Tk} {r:RS} (h:Dr w B b lv nv iv T r) (hB:B≤w.heap.size) (hi:InD T r) :
 Calls Tryz.prog 38 #[.pointer (some ⟨b,0,none⟩)] w fun en w'=>en=.returned (.tuple #[])∧DT w w' B b lv nv iv T (userD T r):=by
 have hTl:T.length≤1000000:=by obtain⟨_,_,_,hl,_⟩:=h.tk;exact hl
 have HC0:=Lib.hid (DT.of_rd h)
 have HI0:=Lib.hid hi
 clear h hi
 go_enter Tryz.func38,Tryz.ntmps38
 obtain⟨r1,hr1⟩:∃ q,nameD T r=q:=⟨_,rfl⟩
 have HN1:=Lib.hid hr1
 have HI1:=Lib.hid (show InD T r1 by rw[←hr1];exact HI0.out.name)
 clear hr1
 obtain⟨s1,hs1⟩:∃ q,nameV T r=q:=⟨_,rfl⟩
 have HS1:=Lib.hid hs1
 clear hs1
 go_wp2_with fail
 refine(dname_any HC0.out.rd (HC0.out.size hB) (bndD HI0.out hTl).1 (bndD HI0.out hTl).2).mono ?_
 rw[HS1.out,HN1.out]
 rintro en w1 ⟨rfl,hc⟩
 have HC1:=Lib.hid (HC0.out.trans hc)
 clear hc
 obtain⟨_,_,_,c3,_,_,_,_,_,_,_,_,_,_,_,_,_⟩:=HC1.out.rd.facts
 obtain⟨_,_,_,f3,_,_,_,_,_,_,_,_,_,_,_,_,_⟩:=HC1.out.rd.free
 have HD1:=Lib.hid (HC1.out.setName s1)
 have HJ1:=Lib.hid (show InD T (setName s1 r1) from HI1.out)
 go_wp2
 first
 | go_end0
 | ((try simp only[Exit.inBlock,Exit.then]);refine bodyPost_ret (results_none rfl _ _ _) rfl ?_)
 exact⟨rfl,by
  have e:userD T r= (setName s1 r1):=by simp only[userD,HN1.out,HS1.out]
  rw[e];exact HD1.out⟩
set_option maxRecDepth 100000 in
set_option maxHeartbeats 2000000 in
theorem dstage_any {w:World} {B b:Nat} {lv nv iv:Value} {T:List Tk} {r:RS} (h:Dr w B b lv nv iv T r) (hB:B≤w.heap.size) (hi:InD T r) :
 Calls Tryz.prog 40 #[.pointer (some ⟨b,0,none⟩)] w fun en w'=>en=.returned (.tuple #[])∧DT w w' B b lv nv iv T (stageD T r):=by
 have hTl:T.length≤1000000:=by obtain⟨_,_,_,hl,_⟩:=h.tk;exact hl
 have HC0:=Lib.hid (DT.of_rd h)
 have HI0:=Lib.hid hi
 clear h hi
 go_enter Tryz.func40,Tryz.ntmps40
 obtain⟨r1,hr1⟩:∃ q,nameD T r=q:=⟨_,rfl⟩
 have HN1:=Lib.hid hr1
 have HI1:=Lib.hid (show InD T r1 by rw[←hr1];exact HI0.out.name)
 clear hr1
 obtain⟨s1,hs1⟩:∃ q,nameV T r=q:=⟨_,rfl⟩
 have HS1:=Lib.hid hs1
 clear hs1
 go_wp2_with fail
 refine(dname_any HC0.out.rd (HC0.out.size hB) (bndD HI0.out hTl).1 (bndD HI0.out hTl).2).mono ?_
 rw[HS1.out,HN1.out]
 rintro en w1 ⟨rfl,hc⟩
 have HC1:=Lib.hid (HC0.out.trans hc)
 clear hc
 obtain⟨_,_,_,c3,_,_,_,_,_,_,_,_,_,_,_,_,_⟩:=HC1.out.rd.facts
 obtain⟨_,_,_,f3,_,_,_,_,_,_,_,_,_,_,_,_,_⟩:=HC1.out.rd.free
 have HD1:=Lib.hid (HC1.out.setName s1)
 have HJ1:=Lib.hid (show InD T (setName s1 r1) from HI1.out)
 obtain⟨r2,hr2⟩:∃ q,mayD T 2 wIn (setName s1 r1)=q:=⟨_,rfl⟩
 have HN2:=Lib.hid hr2
 have HI2:=Lib.hid (show InD T r2 by rw[←hr2];exact HJ1.out.may 2 wIn (by decide))
 clear hr2
 obtain⟨s2,hs2⟩:∃ q,mayB T 2 wIn (setName s1 r1)=q:=⟨_,rfl⟩
 have HS2:=Lib.hid hs2
 clear hs2
 go_wp2_with fail
 refine(dmay_any HD1.out.rd (HD1.out.size hB) 2 wIn (bndD HJ1.out hTl).1 (bndD HJ1.out hTl).2).mono ?_
 rw[HS2.out,HN2.out]
 rintro en w2 ⟨rfl,hc⟩
 have HC2:=Lib.hid (HD1.out.trans hc)
 clear hc
 cases s2
 · go_wp2
   first
   | go_end0
   | ((try simp only[Exit.inBlock,Exit.then]);refine bodyPost_ret (results_none rfl _ _ _) rfl ?_)
   exact⟨rfl,by
    have e:stageD T r=setName s1 r1:=by simp only[stageD,HS1.out,HN1.out,HS2.out];rfl
    have e2:r2=setName s1 r1:=by rw[←HN2.out];unfold mayD;rw[HS2.out];rfl
    rw[e,←e2];exact HC2.out⟩
 · obtain⟨r3,hr3⟩:∃ q,nameD T r2=q:=⟨_,rfl⟩
   have HN3:=Lib.hid hr3
   have HI3:=Lib.hid (show InD T r3 by rw[←hr3];exact HI2.out.name)
   clear hr3
   obtain⟨s3,hs3⟩:∃ q,nameV T r2=q:=⟨_,rfl⟩
   have HS3:=Lib.hid hs3
   clear hs3
   go_wp2_with fail
   refine(dname_any HC2.out.rd (HC2.out.size hB) (bndD HI2.out hTl).1 (bndD HI2.out hTl).2).mono ?_
   rw[HS3.out,HN3.out]
   rintro en w3 ⟨rfl,hc⟩
   have HC3:=Lib.hid (HC2.out.trans hc)
   clear hc
   obtain⟨_,_,_,_,_,_,_,_,_,c9,_,_,_,_,_,_,_⟩:=HC3.out.rd.facts
   obtain⟨_,_,_,_,_,_,_,_,_,f9,_,_,_,_,_,_,_⟩:=HC3.out.rd.free
   have HD3:=Lib.hid (HC3.out.setStage s3)
   have HJ3:=Lib.hid (show InD T (setStage s3 r3) from HI3.out)
   go_wp2
   first
   | go_end0
   | ((try simp only[Exit.inBlock,Exit.then]);refine bodyPost_ret (results_none rfl _ _ _) rfl ?_)
   exact⟨rfl,by
    have e:stageD T r= (setStage s3 r3):=by simp only[stageD,HS1.out,HN1.out,HS2.out,if_true,HN2.out,HS3.out,HN3.out]
    rw[e];exact HD3.out⟩
end Go.Proofs.YthlofmnmacpogaaGreatDoor
namespace Go.Proofs.YthlofmnmacpogaaGreatDoor
open Go.RowKit
theorem owns_beside {w w':World} {b1 b2:Nat} {e1 e2:TypeId} {s1 s2 n1 n2:Nat} {v1 v2:Value} {xs1 xs2:List Value} (h1:w.ownsRow b1 e1 s1 v1 n1 xs1) (h2:w.ownsRow b2 e2 s2 v2 n2 xs2) (he:e1≠e2) (hg:w.grownBy w' v1.ownBlock):w'.ownsRow b2 e2 s2 v2 n2 xs2:=by
 refine h2.kept hg ?_
 rcases h2.2 with⟨rfl,_⟩ | ⟨g2,cap2,cur2,rfl,_,hg2,_⟩
 · exact .inl rfl
 · refine .inr fun e=>?_
   rcases h1.2 with⟨rfl,_⟩ | ⟨g1,cap1,cur1,rfl,_,hg1,_⟩
   · simp[Value.ownBlock] at e
   · have e3:g1=g2:=by
      simp[Value.ownBlock] at e
      omega
     subst e3
     rw[hg1] at hg2;cases hg2;exact he rfl
end Go.Proofs.YthlofmnmacpogaaGreatDoor
namespace Go.Proofs.YthlofmnmacpogaaGreatDoor
open Go.RowKit
theorem info_strD: (Tryz.prog.info? 9).map (fun i=>(i.zero,i.size,i.bytes))=some (some (.string ⟨#[]⟩),1,16):=by kernel_rfl
theorem strV_snoc (l:List ByteArray) (s:ByteArray):strV (l ++ [s])=strV l ++ [.string s]:=by simp[strV]
theorem DT.grown_blk {w w1 w3:World} {B b:Nat} {lv nv iv:Value} {T:List Tk} {r:RS} (h:DT w w1 B b lv nv iv T r) {o:Obj} (hg: (w1.alloc o).grownBy w3 nv.ownBlock) :
 w3.heap[b]?=w1.heap[b]?:=
 (hg.block b (by have:=h.rd.lt;simp;omega) (Ne.symm (row_apart h.rd.nm h.rd.blk (by decide)))).trans (Below.heap_alloc _ _ _ h.rd.lt)
theorem DT.names_at {w w1 w3:World} {B b:Nat} {lv nv iv:Value} {T:List Tk} {r:RS} (h:DT w w1 B b lv nv iv T r) {o:Obj} (hg: (w1.alloc o).grownBy w3 nv.ownBlock) :
 w3.cell? ⟨b,7,none⟩ = some nv∧w3.frozen? ⟨b,7,none⟩ = false:=by
 have hb:=(h.grown_blk hg).trans h.rd.blk
 exact⟨by simp[World.cell?,hb],by simp[World.frozen?,hb]⟩
theorem DT.put {w w1 w3:World} {B b:Nat} {lv nv iv:Value} {T:List Tk} {r:RS} (h:DT w w1 B b lv nv iv T r) (hB:B≤w.heap.size) (hnv:∀ g,nv.ownBlock=some g→w.heap.size≤g) {s:ByteArray} {g3 cap3:Nat} {o:Obj}
 (hg: (w1.alloc o).grownBy w3 nv.ownBlock) (hown:w3.ownsRow B 9 1 (.slice (some ⟨g3,0,none⟩) (r.x.names.length+1) cap3) (r.x.names.length+1) (strV r.x.names ++ [.string s])) (hat:nv.ownBlock=some g3∨w.heap.size≤g3) :
 DT w (w3.setCell ⟨b,7,none⟩ (.slice (some ⟨g3,0,none⟩) (r.x.names.length+1) cap3)) B b lv (.slice (some ⟨g3,0,none⟩) (r.x.names.length+1) cap3) iv T (setNames (r.x.names ++ [s]) r)∧
  ∀ g,(Value.slice (some ⟨g3,0,none⟩) (r.x.names.length+1) cap3).ownBlock=some g→w.heap.size≤g:=by
 have hB1:=Nat.le_trans hB h.gb.size
 have hblk:=(h.grown_blk hg).trans h.rd.blk
 have hlow:Below B w1 w3:=((Below.refl B w1).alloc hB1 o).grown hg (by simp;omega) (fun k e=>(h.rd.nm.lt k e).1)
 have hit:=owns_beside (h.rd.nm.alloc o) (h.rd.it.alloc o) (by decide) hg
 have hown2:w3.ownsRow B 9 1 (.slice (some ⟨g3,0,none⟩) (r.x.names.length+1) cap3) (r.x.names ++ [s]).length (strV (r.x.names ++ [s])):=by
  rw[strV_snoc,List.length_append,List.length_singleton];exact hown
 refine⟨⟨⟨heap_setCell_same w3 b 7 _ _ _ hblk,h.rd.low,(h.rd.tk.below hlow).below ((Below.refl B w3).setCell (p:=⟨b,7,none⟩) h.rd.low _),row_store hown2 hblk (by decide) _ _,row_store hit hblk (by decide) _ _⟩,?_⟩,?_⟩
 · refine gb_set ?_ _ _
   refine⟨hg.os.trans h.gb.os,hg.tape.trans h.gb.tape,hg.output.trans h.gb.output,Nat.le_trans h.gb.size (by have:=hg.size;simp at this;omega),fun q hq hne=>?_⟩
   have hq1:q < w1.heap.size:=Nat.lt_of_lt_of_le hq h.gb.size
   rw[hg.block q (by simp;omega) (fun e=>by have:=hnv q e.symm;omega),Below.heap_alloc _ _ _ hq1]
   exact h.gb.block q hq hne
 · intro g e
   have e2:g3=g:=by simpa [Value.ownBlock] using e
   subst e2
   rcases hat with e|e
   · exact hnv _ e
   · exact e
theorem posD {w:World} {B b:Nat} {lv nv iv:Value} {T:List Tk} {r:RS} (h:Dr w B b lv nv iv T r):posOf w b=r.i.toNat:=by
 obtain⟨_,c1,_⟩:=h.facts
 unfold posOf;rw[c1]
set_option maxRecDepth 100000 in
set_option maxHeartbeats 8000000 in
theorem drole_any {w:World} {B b:Nat} {lv iv:Value} {T:List Tk} {r:RS} (h:Dr w B b lv (.slice none 0 0) iv T r) (hnm:r.x.names= []) (hB:B≤w.heap.size) (hi:InD T r) :
 Calls Tryz.prog 39 #[.pointer (some ⟨b,0,none⟩)] w fun en w'=>en=.returned (.tuple #[])∧∃ nv,DT w w' B b lv nv iv T (roleD T r):=by
 have hTl:T.length≤1000000:=by obtain⟨_,_,_,hl,_⟩:=h.tk;exact hl
 have HC0:=Lib.hid (DT.of_rd h)
 have HI0:=Lib.hid hi
 have hbl:=h.lt
 have HNV:=Lib.hid (show ∀ g,(Value.slice none 0 0).ownBlock=some g→w.heap.size≤g from fun g e=>by simp[Value.ownBlock] at e)
 have HNM:=Lib.hid hnm
 obtain⟨i0,hi0,hz0,hz1,hz2⟩:=info_parts info_strD
 have HIP:=Lib.hid (And.intro hi0 (And.intro hz0 (And.intro hz1 hz2)))
 clear hi0 hz0 hz1 hz2 hnm
 clear h hi
 go_enter Tryz.func39,Tryz.ntmps39
 obtain⟨r1,hr1⟩:∃ q,nameD T r=q:=⟨_,rfl⟩
 have HN1:=Lib.hid hr1
 have HI1:=Lib.hid (show InD T r1 by rw[←hr1];exact HI0.out.name)
 clear hr1
 obtain⟨s1,hs1⟩:∃ q,nameV T r=q:=⟨_,rfl⟩
 have HS1:=Lib.hid hs1
 clear hs1
 go_wp2_with fail
 refine(dname_any HC0.out.rd (HC0.out.size hB) (bndD HI0.out hTl).1 (bndD HI0.out hTl).2).mono ?_
 rw[HS1.out,HN1.out]
 rintro en w1 ⟨rfl,hc⟩
 have HC1:=Lib.hid (HC0.out.trans hc)
 clear hc
 obtain⟨_,_,_,c3,_,_,_,_,_,_,_,_,_,_,_,_,_⟩:=HC1.out.rd.facts
 obtain⟨_,_,_,f3,_,_,_,_,_,_,_,_,_,_,_,_,_⟩:=HC1.out.rd.free
 have HD1:=Lib.hid (HC1.out.setName s1)
 have HJ1:=Lib.hid (show InD T (setName s1 r1) from HI1.out)
 obtain⟨r2,hr2⟩:∃ q,needD T 4 sEq (setName s1 r1)=q:=⟨_,rfl⟩
 have HN2:=Lib.hid hr2
 have HI2:=Lib.hid (show InD T r2 by rw[←hr2];exact HJ1.out.need 4 sEq (by decide))
 clear hr2
 go_wp2_with fail
 refine(dneed_any HD1.out.rd (HD1.out.size hB) 4 sEq (bndD HJ1.out hTl).1 (bndD HJ1.out hTl).2).mono ?_
 rw[HN2.out]
 rintro en w2 ⟨rfl,hc⟩
 have HC2:=Lib.hid (HD1.out.trans hc)
 clear hc
 have HM2:=Lib.hid (show r2.x.names= [] by rw[←HN2.out,need_x];show r1.x.names= [];rw[←HN1.out];exact(congrArg St.names (take_x T 1 r)).trans HNM.out)
 obtain⟨r3,hr3⟩:∃ q,nameD T r2=q:=⟨_,rfl⟩
 have HN3:=Lib.hid hr3
 have HI3:=Lib.hid (show InD T r3 by rw[←hr3];exact HI2.out.name)
 have HX3:=Lib.hid (show r3.x.names=r2.x.names by rw[←hr3];exact congrArg St.names (take_x T 1 r2))
 clear hr3
 obtain⟨s3,hs3⟩:∃ q,nameV T r2=q:=⟨_,rfl⟩
 have HS3:=Lib.hid hs3
 clear hs3
 have hlen3:r3.x.names.length≤1000001:=by rw[HX3.out];exact(by rw[HM2.out];exact Nat.zero_le _)
 go_upto_region 2 with fail
 go_cut [] (fun wx=>∃ nv2:Value,Hid (DT w wx B b lv nv2 iv T (setNames (r3.x.names ++ [s3]) r3)∧∀ g,nv2.ownBlock=some g→w.heap.size≤g))
 case first=>
  obtain⟨_,_,_,_,_,_,_,c7,_,_,_,_,_,_,_,_,_⟩:=HC2.out.rd.drew.facts
  go_region_law (first
   | (go_simp;go_at_call 71;(with_reducible refine(dname_any HC2.out.drew.rd (HC2.out.drew.size hB) (bndD HI2.out hTl).1 (bndD HI2.out hTl).2).mono ?_)
      rw[HS3.out,HN3.out]
      rintro en w3 ⟨rfl,hc⟩
      have HC3:=Lib.hid (HC2.out.drew.trans hc)
      obtain⟨_,_,_,_,_,_,_,d7,_,_,_,_,_,_,_,_,_⟩:=HC3.out.rd.facts
      obtain⟨_,_,_,_,_,_,_,x7,_,_,_,_,_,_,_,_,_⟩:=(HC3.out.alloc hB (.cells #[.string s3] 9)).rd.facts
      have hsz3:=HC3.out.gb.size
      clear hc)
   | (refine step_append_lies _ (by rfl) _ _ _ (by rfl) B 9 i0 _ 1 16 Tryz.underlying34 HIP.out.1 HIP.out.2.1 HIP.out.2.2.1 HIP.out.2.2.2 rfl (by omega) _ r3.x.names.length (strV r3.x.names) (by rfl) (World.ownsRow.alloc HC3.out.rd.nm _) ⟨w3.heap.size,0,none⟩ 1 1 [.string s3] (by rfl) (by rfl) (World.news_of_block (cs:=#[.string s3]) (t:=9) (fr:=(0,0)) (heap_at_size _ _ _ (by simp))) (by simp[Value.oneCell']) (by omega) (by unfold maxLen;omega) (by omega) (by simp;omega) (w3.heap.size+1) (by simp) ?_
      intro g3 cap3 v3 hown3 hgrow3 hat3 hlt3
      have HP3:=Lib.hid (DT.put HC3.out hB HNV.out hgrow3 hown3 (by rcases hat3 with e|e;exact .inl e;exact .inr (by omega)))
      obtain⟨e7,z7⟩:=HC3.out.names_at hgrow3
      clear hown3 hgrow3 hat3))
  all_goals
   go_wp2_with fail
   go_meet
   exact⟨_,HP3.out⟩
 case rest=>
  obtain⟨nv3,hcut⟩:=hcut
  have HC3p:=Lib.hid hcut.out.1
  have HNV3:=Lib.hid hcut.out.2
  have HI3p:=Lib.hid (show InD T (setNames (r3.x.names ++ [s3]) r3) from HI3.out)
  clear hcut
  have HL3:=Lib.hid (show(setNames (r3.x.names ++ [s3]) r3).x.names.length=1 by show(r3.x.names ++ [s3]).length=1;rw[HX3.out,HM2.out];rfl)
  have HE3:Hid (roleD T r=roleL T (T.length+1) (setNames (r3.x.names ++ [s3]) r3)):=by
   unfold Hid;simp only[roleD,moreD,HS1.out,HN1.out,HN2.out,HS3.out,HN3.out];rw[HX3.out]
  go_wp2
  go_loopw [] (fun wr=>∃ (k:Nat) (rr:RS) (nv2:Value),Hid (DT w wr B b lv nv2 iv T rr∧(∀ g,nv2.ownBlock=some g→w.heap.size≤g)∧roleD T r=roleL T k rr∧InD T rr∧(T.length:Int) < rr.i+k∧(rr.x.names.length:Int)≤rr.i+1)) (fun wr=>T.length+1 - posOf wr b)
  case atStart=>exact⟨T.length+1,_,_,HC3p.out,HNV3.out,HE3.out,HI3p.out,by have:=HI3p.out.1;omega,by rw[HL3.out];have:=HI3p.out.1;omega⟩
  case round=>
   obtain⟨k,rr,nv2,HALL⟩:=hrel
   obtain⟨hDT,hnv2,hRL,hII,hfu,hnl⟩:=HALL.out
   have HC4:=Lib.hid hDT;have HNV4:=Lib.hid hnv2;have HRL:=Lib.hid hRL;have HI4:=Lib.hid hII;have HFU:=Lib.hid hfu;have HNLH:=Lib.hid hnl
   have hNL:rr.x.names.length≤1000001:=by have:=hII.2;omega
   have HPOS:Hid (posOf wr b=rr.i.toNat):=posD hDT.rd
   clear hDT hnv2 hRL hII hfu hnl HALL HC3p HNV3 HI3p
   go_wp2_with fail
   refine(dwell_any HC4.out.rd).mono ?_
   rintro en wq ⟨rfl,hw⟩
   rw[hw]
   clear hw wq
   by_cases h0:rr.er=0
   · have HW:=Lib.hid (decide_eq_true h0)
     rw[HW.out]
     obtain⟨x,hx⟩:∃ x,tkAt T rr.i=x:=⟨_,rfl⟩
     have HX:=Lib.hid hx
     have hfx0:∀ w:World,(Instr.field 48 (.agg #[.int .i64 x.kind,.string x.text,.int .i64 x.num,.int .i64 x.line,.int .i64 x.col]) 0).run Tryz.prog w=.ok (.int .i64 x.kind) w:=fun _=>by kernel_rfl
     clear hx h0
     go_wp2_with fail
     refine(dnow_any HC4.out.rd).mono ?_
     rintro en w5 ⟨rfl,hb5⟩
     rw[HX.out]
     unfold tokV
     have HC5:=Lib.hid (HC4.out.then hb5 hB)
     clear hb5
     by_cases hk:x.kind=1
     · have hkb: (x.kind == 1)=true:=by rw[beq_iff_eq];exact hk
       have HKB:Hid (kindB T 1 rr=true):=by unfold Hid kindB;rw[HX.out,decide_eq_true hk,HW.out];rfl
       clear hk
       obtain⟨k,rfl⟩:∃ q,k=q+1:=⟨k - 1,by have:=HFU.out;have:=HI4.out.2;omega⟩
       obtain⟨r6,hr6⟩:∃ q,nameD T rr=q:=⟨_,rfl⟩
       have HN6:=Lib.hid hr6
       have HI6:=Lib.hid (show InD T r6 by rw[←hr6];exact HI4.out.name)
       have HX6:=Lib.hid (show r6.x.names=rr.x.names by rw[←hr6];exact congrArg St.names (take_x T 1 rr))
       clear hr6
       obtain⟨s6,hs6⟩:∃ q,nameV T rr=q:=⟨_,rfl⟩
       have HS6:=Lib.hid hs6
       clear hs6
       have hlen6:r6.x.names.length≤1000001:=by rw[HX6.out];exact hNL
       go_upto_region 4 with fail
       obtain⟨_,_,_,_,_,_,_,c7,_,_,_,_,_,_,_,_,_⟩:=HC5.out.rd.drew.facts
       go_region_law (first
        | (go_simp;go_at_call 71;(with_reducible refine(dname_any HC5.out.drew.rd (HC5.out.drew.size hB) (bndD HI4.out hTl).1 (bndD HI4.out hTl).2).mono ?_)
           rw[HS6.out,HN6.out]
           rintro en w6 ⟨rfl,hc⟩
           have HC6:=Lib.hid (HC5.out.drew.trans hc)
           obtain⟨_,_,_,_,_,_,_,d7,_,_,_,_,_,_,_,_,_⟩:=HC6.out.rd.facts
           obtain⟨_,_,_,_,_,_,_,x7,_,_,_,_,_,_,_,_,_⟩:=(HC6.out.alloc hB (.cells #[.string s6] 9)).rd.facts
           have hsz6:=HC6.out.gb.size
           clear hc)
        | (refine step_append_lies _ (by rfl) _ _ _ (by rfl) B 9 i0 _ 1 16 Tryz.underlying34 HIP.out.1 HIP.out.2.1 HIP.out.2.2.1 HIP.out.2.2.2 rfl (by omega) _ r6.x.names.length (strV r6.x.names) (by rfl) (World.ownsRow.alloc HC6.out.rd.nm _) ⟨w6.heap.size,0,none⟩ 1 1 [.string s6] (by rfl) (by rfl) (World.news_of_block (cs:=#[.string s6]) (t:=9) (fr:=(0,0)) (heap_at_size _ _ _ (by simp))) (by simp[Value.oneCell']) (by omega) (by unfold maxLen;omega) (by omega) (by simp;omega) (w6.heap.size+1) (by simp) ?_
           intro g6 cap6 v6 hown6 hgrow6 hat6 hlt6
           have HP6:=Lib.hid (DT.put HC6.out hB HNV4.out hgrow6 hown6 (by rcases hat6 with e|e;exact .inl e;exact .inr (by omega)))
           obtain⟨e7,z7⟩:=HC6.out.names_at hgrow6
           clear hown6 hgrow6 hat6))
       all_goals
        have HC6p:=Lib.hid HP6.out.1
        have HNV6:=Lib.hid HP6.out.2
        have HI6p:=Lib.hid (show InD T (setNames (r6.x.names ++ [s6]) r6) from HI6.out)
        have HNX:Hid (r6.i=rr.i+1):=by unfold Hid;rw[←HN6.out];exact take_next HKB.out
        have HRL6:Hid (roleD T r=roleL T k (setNames (r6.x.names ++ [s6]) r6)):=by
         unfold Hid;rw[HRL.out,roleL,if_pos HKB.out,moreD,HS6.out,HN6.out,HX6.out]
        have HLN:Hid ((r6.x.names ++ [s6]).length=rr.x.names.length+1):=by unfold Hid;rw[HX6.out];simp
        go_wp2
        go_roundw
        case rel=>exact⟨k,_,_,HC6p.out,HNV6.out,HRL6.out,HI6p.out,by have:=HNX.out;have:=HFU.out;show(T.length:Int) < r6.i+k;omega,by have:=HNX.out;have:=HNLH.out;have:=HLN.out;show((r6.x.names ++ [s6]).length:Int)≤r6.i+1;omega⟩
        case measure=>
         rw[posD HC6p.out.rd,HPOS.out]
         have e: (setNames (r6.x.names ++ [s6]) r6).i=rr.i+1:=HNX.out
         rw[e]
         have:=HI4.out.1;have:=HI6p.out.2
         rw[e] at this
         omega
     · have hkb: (x.kind == 1)=false:=beq_eq_false_iff_ne.2 hk
       have HKB:Hid (kindB T 1 rr=false):=by unfold Hid kindB;rw[HX.out,decide_eq_false hk,Bool.false_and]
       clear hk
       have HFIN:=Lib.hid HC5.out
       have HE:Hid (roleD T r=rr):=by
        unfold Hid;rw[HRL.out]
        cases k with
        | zero=>rfl
        | succ k=>rw[roleL,if_neg (by rw[HKB.out];decide)]
       go_wp2
       first
       | go_end0
       | ((try simp only[Exit.inBlock,Exit.then]);refine bodyPost_ret (results_none rfl _ _ _) rfl ?_)
       exact⟨rfl,nv2,by rw[HE.out];exact HFIN.out⟩
   · have HW:=Lib.hid (decide_eq_false h0)
     rw[HW.out]
     have HKB:Hid (kindB T 1 rr=false):=by unfold Hid kindB;rw[HW.out,Bool.and_false]
     clear h0
     have HFIN:=Lib.hid HC4.out
     have HE:Hid (roleD T r=rr):=by
      unfold Hid;rw[HRL.out]
      cases k with
      | zero=>rfl
      | succ k=>rw[roleL,if_neg (by rw[HKB.out];decide)]
     go_wp2
     first
     | go_end0
     | ((try simp only[Exit.inBlock,Exit.then]);refine bodyPost_ret (results_none rfl _ _ _) rfl ?_)
     exact⟨rfl,nv2,by rw[HE.out];exact HFIN.out⟩
end Go.Proofs.YthlofmnmacpogaaGreatDoor
