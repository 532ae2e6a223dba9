/- A part of a proof of DeclReadsProof. -/
import Derived.Test.YthlofmnmacpogaaGreatDoorRt37
import Derived.Test.YthlofmnmacpogaaGreatDoorRt38
import Derived.Test.YthlofmnmacpogaaGreatDoorRt25
set_option maxRecDepth 100000
set_option maxHeartbeats 40000000
namespace Go.Proofs.YthlofmnmacpogaaGreatDoor
open Go.RowKit
def evR5 (T:List Tk) (r:RS):RS:=
 let r2:=needD T 2 wBy r
 let r3:=setRole (nameV T r2) (nameD T r2)
 let r4:=needD T 2 wIn r3
 setStage (nameV T r4) (nameD T r4)
def evR6 (T:List Tk) (r5:RS):RS:=if mayB T 2 wSets r5 then setsL T (T.length+1) (moreD T (mayD T 2 wSets r5)) else r5
def evR7 (T:List Tk) (r6:RS):RS:=if mayB T 2 wMax r6 then timesD T (mayD T 2 wMax r6) else r6
theorem needD_x (T:List Tk) (k:Int) (s:ByteArray) (r:RS): (needD T k s r).x=r.x:=by
 unfold needD failD
 split
 · rfl
 · split <;> rfl
theorem Clr.role {T:List Tk} {r:RS} (h:Clr T r) (s:ByteArray):Clr T (setRole s r):=h
theorem Clr.stage {T:List Tk} {r:RS} (h:Clr T r) (s:ByteArray):Clr T (setStage s r):=h
theorem times_kind {T:List Tk} {r:RS} (hk: (tkAt T r.i).kind≠3):EqR (failD T 4 r) (timesD T r):=by
 have h1:timesD T r=setTimes 0 (failD T 4 r):=by
  unfold timesD
  rw[if_neg (fun h=>hk h.1)]
  dsimp only
  rw[show numW T r=0 by unfold numW kindB;rw[decide_eq_false hk,Bool.false_and];rfl]
  rw[show numD T r=failD T 4 r by unfold numD takeD kindB;rw[decide_eq_false hk,Bool.false_and,if_neg (by decide),if_neg hk]]
 rw[h1]
 exact⟨rfl,rfl,rfl,fun h=>absurd (show(failD T 4 r).er=0 from h) failD_no⟩
theorem times_far {T:List Tk} {r:RS} (h0:r.er=0) (hk: (tkAt T r.i).kind=3) (hn: (tkAt T r.i).num < 1∨3 < (tkAt T r.i).num):EqR (failD T 11 r) (timesD T r):=by
 have hne: (failD T 11 r).er≠0:=failD_er T (by decide) r
 have hi: (failD T 11 r).i=r.i:=by unfold failD;split <;> rfl
 have h1:timesD T r=setTimes 0 (failD T 11 r):=by
  unfold timesD
  rw[if_pos ⟨hk,hn⟩]
  dsimp only
  rw[show numW T (failD T 11 r)=0 by unfold numW kindB;rw[decide_eq_false hne,Bool.and_false];rfl]
  rw[show numD T (failD T 11 r)=failD T 11 r by unfold numD takeD kindB;rw[decide_eq_false hne,Bool.and_false,if_neg (by decide),hi,if_pos hk]]
 rw[h1]
 exact⟨rfl,rfl,rfl,fun h=>absurd (show(failD T 11 r).er=0 from h) hne⟩
theorem times_ok {T:List Tk} {r:RS} (h0:r.er=0) (hk: (tkAt T r.i).kind=3) (hn:¬((tkAt T r.i).num < 1∨3 < (tkAt T r.i).num)):timesD T r=setTimes (tkAt T r.i).num { r with i:=r.i+1 }:=by
 unfold timesD
 rw[if_neg (fun h=>hn h.2)]
 dsimp only
 have hkb:kindB T 3 r=true:=by unfold kindB;rw[decide_eq_true hk,decide_eq_true h0];rfl
 rw[show numW T r= (tkAt T r.i).num by unfold numW;rw[if_pos hkb]]
 rw[show numD T r= { r with i:=r.i+1 } by unfold numD takeD;rw[if_pos hkb]]
theorem tk_num (x:Tk): (∀ w:World,(Instr.field 48 (.agg #[.int .i64 x.kind,.string x.text,.int .i64 x.num,.int .i64 x.line,.int .i64 x.col]) 2).run Tryz.prog w=.ok (.int .i64 x.num) w):=fun _=>by kernel_rfl
end Go.Proofs.YthlofmnmacpogaaGreatDoor
