/- 'warder/warderlaw07.DeclReads' returns true for every input and leaves its argument as it was; no condition. The row lists package-level variables of Go's library with what they hold at the start; the card ties them to the program's text. -/
import Derived.Test.YthlofmnmacpogaaGreatDoorRt47
import Derived.Test.YthlofmnmacpogaaGreatDoorRt48
import Derived.Test.YthlofmnmacpogaaGreatDoorRt49
import Derived.Test.YthlofmnmacpogaaGreatDoorRt33
import Derived.Test.YthlofmnmacpogaaGreatDoorRt30
import Derived.Test.YthlofmnmacpogaaGreatDoorRt35
import Derived.Test.YthlofmnmacpogaaGreatDoorCards
import Derived.Test.YthlofmnmacpogaaGreatDoorTie
import Derived.Test.YthlofmnmacpogaaGreatDoorRt09
import Derived.WalkKit
import Derived.ProofKit
import Derived.OpenShut
import Derived.ChangeOld
import Derived.Below
import Derived.ShutString
import Derived.Deep.DeepHandedRow
import Derived.Lay
import Derived.Stop.Joined
import Derived.MakeChecks
import Derived.SizedLaws
set_option maxRecDepth 100000
set_option maxHeartbeats 40000000
namespace Go.Proofs.YthlofmnmacpogaaGreatDoor
open Go.RowKit
theorem rdone_any {w:World} {B:Nat} {lv:Value} {T:List Tk} (h:TkIn w B lv T) (hB:B≤w.heap.size) (i:Int) :
 Calls Tryz.prog 12 #[lv,.int .i64 i] w (RdOne w (oneD T i)):=by
 by_cases hn: (tkAt T i).kind≠2∨kindN (tkAt T i).text=0
 · exact rdone_none h hB i hn
 · have hk: (tkAt T i).kind=2:=Classical.byContradiction fun e=>hn (.inl e)
   have h0:kindN (tkAt T i).text≠0:=fun e=>hn (.inr e)
   by_cases h8:kindN (tkAt T i).text=8
   · exact rdone_sod h hB i hk h0 h8
   · exact rdone_rest h hB i hk h0 h8
structure StR2 (w:World) (B:Nat) (v:Value) (l:List Sv):Prop where
 row:w.ownsRow B 37 12 v l.length (svFlat l)
 nm:∀ e ∈ l,NmRow w e.2.1 e.1.names
 it:∀ e ∈ l,ItRow w e.2.2 e.1.ifs
theorem StR2.nil (w:World) (B:Nat):StR2 w B (.slice none 0 0) []:=
 ⟨World.ownsRow_nil _ _ _ _,fun e h=>by simp at h,fun e h=>by simp at h⟩
theorem StR2.below {w w':World} {B:Nat} {v:Value} {l:List Sv} (h:StR2 w B v l) (hb:Below w.heap.size w w'):StR2 w' B v l:=
 ⟨owns_below h.row hb,fun e he=>(h.nm e he).keep hb,fun e he=>(h.it e he).keep hb⟩
theorem StR2.mono {w:World} {B B2:Nat} {v:Value} {l:List Sv} (h:StR2 w B v l) (hB:B2≤B):StR2 w B2 v l:=
 ⟨owns_mono h.row hB,h.nm,h.it⟩
theorem StR2.fault {w:World} {B b:Nat} {v:Value} {l:List Sv} {e l0 c:Int} (h:StR2 w B v l) (hf:FtB w b e l0 c) (e2 l2 c2:Int):StR2 (((w.setCell ⟨b,0,none⟩ (.int .i64 e2)).setCell ⟨b,1,none⟩ (.int .i64 l2)).setCell ⟨b,2,none⟩ (.int .i64 c2)) B v l:=
 ⟨hf.row h.row (by decide) e2 l2 c2,fun e he=>(h.nm e he).elim fun B hr=>⟨B,hf.row hr (by decide) e2 l2 c2⟩,fun e he=>(h.it e he).elim fun B hr=>⟨B,hf.row hr (by decide) e2 l2 c2⟩⟩
theorem StR2.put {w w':World} {B:Nat} {v v':Value} {l:List Sv} {x:Sv} (h:StR2 w B v l) (hg:w.grownBy w' v.ownBlock) (hown:w'.ownsRow B 37 12 v' (l.length+1) (svFlat l ++svCells x))
 (hn:NmRow w x.2.1 x.1.names) (hi:ItRow w x.2.2 x.1.ifs):StR2 w' B v' (l ++ [x]):=by
 refine⟨by rw[svFlat_snoc,List.length_append,List.length_singleton];exact hown,fun e he=>?_,fun e he=>?_⟩
 · rcases List.mem_append.1 he with h1|h1
   · exact(h.nm e h1).elim fun B hr=>⟨B,owns_beside h.row hr (by decide) hg⟩
   · obtain rfl:e=x:=by simpa using h1
     exact hn.elim fun B hr=>⟨B,owns_beside h.row hr (by decide) hg⟩
 · rcases List.mem_append.1 he with h1|h1
   · exact(h.it e h1).elim fun B hr=>⟨B,owns_beside h.row hr (by decide) hg⟩
   · obtain rfl:e=x:=by simpa using h1
     exact hi.elim fun B hr=>⟨B,owns_beside h.row hr (by decide) hg⟩
theorem StR2.sv {w:World} {B:Nat} {v:Value} {l:List Sv} (h:StR2 w B v l):SvRow w v l:=
 ⟨0,owns_mono h.row (Nat.zero_le _),fun e he=>(h.nm e he).elim fun _ hr=>owns_mono hr (Nat.zero_le _),fun e he=>(h.it e he).elim fun _ hr=>owns_mono hr (Nat.zero_le _)⟩
theorem NmRow.alloc {w:World} {v:Value} {l:List ByteArray} (h:NmRow w v l) (o:Obj):NmRow (w.alloc o) v l:=h.keep ((Below.refl _ _).alloc (Nat.le_refl _) o)
def RdReadP (w:World) (p:SR) (e:Ending) (w':World):Prop:=
 match p with
 | .ok L=>∃ (l:List Sv) (v:Value),l.map (·.1)=L∧e=.returned (.tuple #[v,.agg #[.int .i64 0,.int .i64 0,.int .i64 0]])∧SvRow w' v l∧Below w.heap.size w w'
 | .bad er l c=>e=.returned (.tuple #[.slice none 0 0,.agg #[.int .i64 er,.int .i64 l,.int .i64 c]])∧Below w.heap.size w w'
theorem rread7_results {W:World} {tmps:Array Value} {f:Nat} {v:Value} {e l c:Int} (hf:FtB W f e l c) (h2:tmps[2]?.getD undef=v) (h3:tmps[3]?.getD undef=.pointer (some ⟨f,0,none⟩)) :
 (results Tryz.f9 tmps).run Tryz.prog W=.ok (.tuple #[v,.agg #[.int .i64 e,.int .i64 l,.int .i64 c]]) W:=by
 obtain⟨u0,u1,u2⟩:=hf.facts
 simp[results,Tryz.results9,go_sem,h2,h3,u0,u1,u2]
theorem rd7_bad (s:ByteArray) (w:World) (hs:s.size≤4294967200) (h0: (tokRes s).er≠0) :
 Calls Tryz.prog 9 #[.string s] w (RdReadP w (readD s)):=by
 have HTK:=Lh (rtokens_any s (w.alloc oB3) hs)
 have HF0:=Lh (show FtB (w.alloc oB3) w.heap.size 0 0 0 from heap_alloc_new w _)
 have HB0:=Lh ((Below.refl w.heap.size w).alloc (Nat.le_refl _) oB3)
 obtain⟨er,her⟩:∃ e,(tokRes s).er=e:=⟨_,rfl⟩
 obtain⟨tl,htl⟩:∃ e,(tokRes s).line=e:=⟨_,rfl⟩
 obtain⟨tc,htc⟩:∃ e,(tokRes s).col=e:=⟨_,rfl⟩
 rw[her] at h0
 have HER:=Lh her;have HTL:=Lh htl;have HTC:=Lh htc
 have HE0:=Lh h0
 have HU:Hid (readD s=.bad er tl tc):=by unfold Hid readD;rw[HER.out,if_pos h0,HTL.out,HTC.out]
 have hne: (er !=0)=true:=by simpa using h0
 clear h0 her htl htc
 go_enter Tryz.func9,Tryz.ntmps9
 go_wp2_with fail
 refine HTK.out.mono ?_
 rintro en w1 ⟨v,rfl,hown,hb1⟩
 rw[HER.out,HTL.out,HTC.out,faultV_no HE0.out]
 have hf1:=HF0.out.below hb1
 obtain⟨q0,q1,q2⟩:=hf1.facts
 obtain⟨z0,z1,z2⟩:=hf1.free
 have hlt1:=hf1.lt
 have HBB:=Lh (HB0.out.trans (hb1.mono HB0.out.size))
 have HE:=Lh ((hf1.stored er tl tc).alloc (.cells #[.int .i64 er,.int .i64 tl,.int .i64 tc] 28)).facts
 clear hown hb1 hf1
 go_wp2
 go_region
 go_wp2
 obtain⟨e0,e1,e2⟩:=HE.out
 refine bodyPost_ret (v:=.tuple #[.slice none 0 0,.agg #[.int .i64 er,.int .i64 tl,.int .i64 tc]]) (by simp[results,Tryz.results9,go_sem,e0,e1,e2]) rfl ?_
 rw[HU.out]
 exact⟨rfl,((below_fault HBB.out (Nat.le_refl _) _ _ _).alloc (by have:=HBB.out.size;simp;omega) _).drew⟩
theorem rd7_ok (s:ByteArray) (w:World) (hs:s.size≤4294967200) (h0: (tokRes s).er=0) :
 Calls Tryz.prog 9 #[.string s] w (RdReadP w (readD s)):=by
 have HTK:=Lh (rtokens_any s (w.alloc oB3) hs)
 have HF0:=Lh (show FtB (w.alloc oB3) w.heap.size 0 0 0 from heap_alloc_new w _)
 have HB0:=Lh ((Below.refl w.heap.size w).alloc (Nat.le_refl _) oB3)
 have HS0:=Lh (show(w.alloc oB3).heap.size=w.heap.size+1 by simp)
 have HER:=Lh h0
 obtain⟨X,hX,hXl⟩:=tokRes_endD s h0
 obtain⟨T,hT⟩:∃ T,(tokRes s).T=T:=⟨_,rfl⟩
 have HT:=Lh hT
 have hTl:T.length≤4097:=by rw[←hT,hX];simp;omega
 have hEnd:∀ a:Int,(tkAt T (a - 1)).kind≠5→0 < a→a < T.length+1→a < T.length:=by
  intro a h1 h2 h3
  refine Classical.byContradiction fun h4=>h1 ?_
  have e:a - 1= ((X.length:Nat):Int):=by rw[←hT,hX] at h3 h4;simp at h3 h4;omega
  have:T[X.length]?=some (endTk s):=by rw[←hT,hX];simp
  rw[e,tkAt_some this];rfl
 have HEND:=Lh hEnd
 have hTP:0 < T.length:=by rw[←hT,hX];simp
 have HTP:=Lh hTP
 have HTL6:=Lh hTl
 have HU:Hid (readD s=readS T T.length 0 []):=by unfold Hid readD;rw[if_neg (by omega),hT]
 clear hX hXl hEnd hT h0 hTl hTP
 go_enter Tryz.func9,Tryz.ntmps9
 go_wp2_with fail
 refine HTK.out.mono ?_
 rintro en w1 ⟨v,rfl,hown,hb1⟩
 rw[HT.out] at hown
 rw[HER.out,faultV_ok]
 obtain⟨g,cap,hv,hg,hgs⟩:=owns_shape hown HTP.out
 rw[HS0.out] at hg
 subst hv
 have hf1:=(HF0.out.below hb1).alloc oB3
 have hal:=(Below.refl w1.heap.size w1).alloc (Nat.le_refl _) oB3
 have hs1:=hb1.size
 rw[HS0.out] at hs1
 obtain⟨W1,hW1⟩:∃ W,W=w1.alloc oB3:=⟨_,rfl⟩
 have hsW:W1.heap.size=w1.heap.size+1:=by rw[hW1];simp
 have HOW:=Lh (show W1.ownsRow _ _ _ _ _ _ by rw[hW1];exact hown.alloc oB3)
 have HTI:=Lh (tkIn_ownsD (B:=W1.heap.size) HOW.out (Nat.le_refl _) (by have:=HTL6.out;omega))
 have HBB:=Lh (show Below w.heap.size w W1 by rw[hW1];exact(HB0.out.trans (hb1.mono HB0.out.size)).trans (hal.mono (Nat.le_trans HB0.out.size hb1.size)))
 have F1:=Lh (show FtB W1 w.heap.size 0 0 0 by rw[hW1];exact hf1)
 have HW1:=Lh hW1
 have HSW:=Lh hsW
 clear hown hb1 hf1 hal hsW
 go_wp2
 rw[←HW1.out]
 clear hW1
 go_loopw [6,7] (fun v6 v7 wr=>∃ (k i:Nat) (l:List Sv),v7=.int .i64 i∧Hid (Below W1.heap.size W1 wr∧StR2 wr W1.heap.size v6 l∧readS T T.length 0 []=readS T k i (l.map (·.1))∧i < T.length∧T.length≤i+k∧l.length≤i)) (fun _ v7 _=>T.length - (intOf v7).toNat)
 case atStart=>exact⟨T.length,0,[],rfl,Below.refl _ _,StR2.nil _ _,rfl,HTP.out,by omega,Nat.le_refl _⟩
 case round=>
  obtain⟨k,i,l,rfl,HALL⟩:=hrel
  have HB:=Lh HALL.out.1
  have HR:=Lh HALL.out.2.1
  have HQ:=Lh HALL.out.2.2.1
  have hiT:i < T.length:=HALL.out.2.2.2.1
  have HK:=Lh HALL.out.2.2.2.2
  clear HALL
  obtain⟨y,hy⟩:∃ y,T[i]?=some y:=⟨_,List.getElem?_eq_getElem hiT⟩
  have HY:=Lh (show tkAt T i=y from tkAt_some hy)
  obtain⟨g',off,cap',e1,-,hgw,d0,-,-,-,-⟩:=(HTI.out.below HB.out).at hy
  obtain⟨⟨rfl,rfl⟩,rfl⟩: (g=g'∧off=0)∧cap=cap':=by simpa [eq_comm] using e1
  clear hy
  rw[Nat.zero_add] at d0
  have hfr:=F1.out.below (HB.out.mono (by have:=F1.out.lt;omega) |> fun h=>h)
  have F2:=Lh hfr
  obtain⟨q0,q1,q2⟩:=hfr.facts
  obtain⟨z0,z1,z2⟩:=hfr.free
  have hltF:=hfr.lt
  have hi0: (0:Int)≤(i:Int):=by omega
  have hi1: (i:Int) < (T.length:Int):=by omega
  clear hfr
  by_cases h5:y.kind=5
  · have h5b: (y.kind !=5)=false:=by simp[h5]
    have HE:Hid (readS T T.length 0 []=.ok (l.map (·.1))):=by
     unfold Hid;rw[HQ.out]
     cases k with
     | zero=>rfl
     | succ k=>rw[readS,if_pos (by rw[HY.out];exact h5)]
    clear h5
    have HF3:=Lh (F2.out.stored 0 0 0)
    have HR3:=Lh ((HR.out.mono HBB.out.size).fault F2.out 0 0 0)
    have HB3:=Lh (below_fault (HBB.out.trans (HB.out.mono HBB.out.size)) (Nat.le_refl _) (.int .i64 0) (.int .i64 0) (.int .i64 0))
    go_wp2
    refine bodyPost_ret (rread7_results HF3.out rfl rfl) rfl ?_
    rw[HU.out,HE.out]
    exact⟨l,_,rfl,rfl,HR3.out.sv,HB3.out⟩
  · have h5b: (y.kind !=5)=true:=by simpa using h5
    have HN5:=Lh h5
    clear h5
    cases hp:oneD T i with
    | bad e l0 c=>
      have HE:Hid (readS T T.length 0 []=.bad e l0 c):=by
       unfold Hid;rw[HQ.out]
       obtain⟨q,rfl⟩:∃ q,k=q+1:=⟨k - 1,by have:=HK.out.1;omega⟩
       rw[readS,if_neg (by rw[HY.out];exact HN5.out),hp]
      have hne:=oneD_bad hp
      have hneb: (e !=0)=true:=by simpa using hne
      have HP:=Lh hp
      clear hp hne
      go_wp2_with fail
      refine(rdone_any (HTI.out.below HB.out) HB.out.size i).mono ?_
      rw[HP.out]
      rintro en w2 ⟨rfl,hb2⟩
      rw[show stV noSt (.slice none 0 0) (.slice none 0 0)=.agg #[.int .i64 0,.string ⟨#[]⟩,.int .i64 0,.int .i64 0,.int .i64 0,.slice none 0 0,.string ⟨#[]⟩,.string ⟨#[]⟩,.string ⟨#[]⟩,.int .i64 0,.slice none 0 0,.bool false] from rfl]
      have F3:=Lh ((((F2.out.below hb2).stored e l0 c).alloc oB5).alloc (.cells #[.int .i64 e,.int .i64 l0,.int .i64 c] 28)).drew
      have BL:=Lh ((((below_fault ((HBB.out.trans (HB.out.mono HBB.out.size)).trans (hb2.mono (Nat.le_trans HBB.out.size HB.out.size))) (Nat.le_refl _) (.int .i64 e) (.int .i64 l0) (.int .i64 c)).alloc (by have:=hb2.size;have:=HB.out.size;have:=HBB.out.size;simp;omega) oB5).alloc (by have:=hb2.size;have:=HB.out.size;have:=HBB.out.size;simp;omega) (.cells #[.int .i64 e,.int .i64 l0,.int .i64 c] 28)).drew)
      have hf2:=F2.out.below hb2
      clear q0 q1 q2 z0 z1 z2 hltF
      obtain⟨q0,q1,q2⟩:=hf2.facts
      obtain⟨z0,z1,z2⟩:=hf2.free
      have hltF:=hf2.lt
      clear hf2 hb2
      go_wp2
      go_region
      go_wp2
      refine bodyPost_ret (rread7_results F3.out rfl rfl) rfl ?_
      rw[HU.out,HE.out]
      exact⟨rfl,BL.out⟩
    | ok x a=>
      obtain⟨ha0,ha1,ha2,ha3⟩:=oneD_ok hp
      have haT:=HEND.out a ha3 (by omega) ha2
      obtain⟨ka,hka⟩:∃ ka:Nat,a=ka:=⟨a.toNat,by omega⟩
      subst hka
      have HE:Hid (∃ q,k=q+1∧readS T T.length 0 []=readS T q ka (l.map (·.1) ++ [x])):=by
       unfold Hid
       obtain⟨q,rfl⟩:∃ q,k=q+1:=⟨k - 1,by have:=HK.out.1;omega⟩
       refine⟨q,rfl,?_⟩
       rw[HQ.out,readS,if_neg (by rw[HY.out];exact HN5.out),hp]
      have HKA:=Lh (show i+2≤ka∧ka < T.length by omega)
      have HP:=Lh hp
      clear hp ha0 ha1 ha2 ha3 haT
      go_wp2_with fail
      refine(rdone_any (HTI.out.below HB.out) HB.out.size i).mono ?_
      rw[HP.out]
      rintro en w2 ⟨nv,iv,rfl,hn,hi,hb2⟩
      obtain⟨ad5,cap5,hv5⟩:=hn.len
      obtain⟨n5,hn5⟩:∃ n,x.names.length=n:=⟨_,rfl⟩
      rw[hn5] at hv5
      obtain⟨ad6,cap6,hv6⟩:=hi.len
      obtain⟨n6,hn6⟩:∃ n,x.ifs.length=n:=⟨_,rfl⟩
      rw[hn6] at hv6
      clear hn5 hn6
      subst hv5 hv6
      unfold stV
      have HB2:=Lh (((hb2.mono HB.out.size).alloc (by have:=hb2.size;have:=HB.out.size;omega) (.cells #[.int .i64 x.kind,.string x.name,.int .i64 x.line,.int .i64 x.col,.int .i64 x.init,(.slice ad5 n5 cap5),.string x.role,.string x.stage,.string x.event,.int .i64 x.times,(.slice ad6 n6 cap6),.bool x.final] 37)).alloc (by have:=hb2.size;have:=HB.out.size;simp;omega) oB3)
      have HBr:=Lh ((hb2.alloc hb2.size (.cells #[.int .i64 x.kind,.string x.name,.int .i64 x.line,.int .i64 x.col,.int .i64 x.init,(.slice ad5 n5 cap5),.string x.role,.string x.stage,.string x.event,.int .i64 x.times,(.slice ad6 n6 cap6),.bool x.final] 37)).alloc (by have:=hb2.size;simp;omega) oB3)
      have HN3:=Lh ((hn.alloc (.cells #[.int .i64 x.kind,.string x.name,.int .i64 x.line,.int .i64 x.col,.int .i64 x.init,(.slice ad5 n5 cap5),.string x.role,.string x.stage,.string x.event,.int .i64 x.times,(.slice ad6 n6 cap6),.bool x.final] 37)).alloc oB3)
      have HI3:=Lh ((hi.alloc (.cells #[.int .i64 x.kind,.string x.name,.int .i64 x.line,.int .i64 x.col,.int .i64 x.init,(.slice ad5 n5 cap5),.string x.role,.string x.stage,.string x.event,.int .i64 x.times,(.slice ad6 n6 cap6),.bool x.final] 37)).alloc oB3)
      have HR3:=Lh (HR.out.below HBr.out)
      have hlen:l.length≤4097:=by have:=HK.out.2;have:=HTL6.out;omega
      have hszb:W1.heap.size≤w2.heap.size:=Nat.le_trans HB.out.size hb2.size
      clear hn hi hb2 q0 q1 q2 z0 z1 z2
      go_wp2_with (at_builtin;refine app1 ((w2.alloc (.cells #[.int .i64 x.kind,.string x.name,.int .i64 x.line,.int .i64 x.col,.int .i64 x.init,(.slice ad5 n5 cap5),.string x.role,.string x.stage,.string x.event,.int .i64 x.times,(.slice ad6 n6 cap6),.bool x.final] 37)).alloc oB3) #[.int .i64 x.kind,.string x.name,.int .i64 x.line,.int .i64 x.col,.int .i64 x.init,(.slice ad5 n5 cap5),.string x.role,.string x.stage,.string x.event,.int .i64 x.times,(.slice ad6 n6 cap6),.bool x.final] rfl _ _ 23 rfl W1.heap.size 37 _ 12 160 Tryz.underlying23 info_stmt rfl (by decide) (by decide) _ _ _ rfl (by exact HR3.out.row) rfl (by simp) rfl (by simp[Value.oneCell']) (by omega) (by simp;omega) ?_;intro v' w3 hown' hg' hb')
      obtain⟨q,hq,hE⟩:=HE.out
      have HR4:=Lh (HR3.out.put (x:=(x,(.slice ad5 n5 cap5),(.slice ad6 n6 cap6))) hg' hown' HN3.out HI3.out)
      have HB4:=Lh ((HB.out.trans HB2.out).trans hb')
      have HQ4:=Lh hE
      have hq1:=hq
      clear hown' hg' hb' hE hq
      go_wp2
      go_roundw
      case rel=>exact⟨q,ka,l ++ [(x,(.slice ad5 n5 cap5),(.slice ad6 n6 cap6))],rfl,HB4.out,HR4.out,by rw[HQ4.out,List.map_append];rfl,HKA.out.2,by have:=HK.out.1;have:=HKA.out.1;omega,by have:=HK.out.2;have:=HKA.out.1;rw[List.length_append,List.length_singleton];omega⟩
      case measure=>
       have e1: (intOf (.int .i64 (ka:Int))).toNat=ka:=rfl
       have e2: (intOf (.int .i64 (i:Int))).toNat=i:=rfl
       have:=HKA.out.1
       first
       | (rw[e1,e2];omega)
       | (simp[intOf];omega)
theorem rread7_any (s:ByteArray) (w:World) (hs:s.size≤4294967200) :
 Calls Tryz.prog 9 #[.string s] w (RdReadP w (readD s)):=by
 by_cases h0: (tokRes s).er=0
 · exact rd7_ok s w hs h0
 · exact rd7_bad s w hs h0
def GP (w:World) (L:List St) (er l c:Int) (e:Ending) (w':World):Prop:=∃ (v:Value) (rows:List Sv),rows.map (·.1)=L∧e=.returned (.tuple #[v,.agg #[.int .i64 er,.int .i64 l,.int .i64 c]])∧SvRow w' v rows∧Below w.heap.size w w'
theorem SvRow.nil (w:World):SvRow w (.slice none 0 0) []:=⟨0,StRow.nil _ _⟩
theorem reads_both (s:ByteArray) (hs:s.size≤4294967200):∃ L er l c,(∀ w,MaxCell w→Calls Tryz.prog 8 #[.string s] w (GP w L er l c))∧(∀ w,Calls Tryz.prog 9 #[.string s] w (GP w L er l c)):=by
 cases h:readD s with
 | ok L=>
   refine⟨L,0,0,0,fun w hm=>(dread_any s w hm hs).mono ?_,fun w=>(rread7_any s w hs).mono ?_⟩
   · rw[h]
     rintro e w' ⟨l,v,hl,rfl,hr,hb⟩
     exact⟨v,l,hl,rfl,⟨_,hr⟩,hb⟩
   · rw[h]
     rintro e w' ⟨l,v,hl,rfl,hr,hb⟩
     exact⟨v,l,hl,rfl,hr,hb⟩
 | bad er l c=>
   refine⟨[],er,l,c,fun w hm=>(dread_any s w hm hs).mono ?_,fun w=>(rread7_any s w hs).mono ?_⟩
   · rw[h]
     rintro e w' ⟨rfl,hb⟩
     exact⟨_,[],rfl,rfl,SvRow.nil _,hb⟩
   · rw[h]
     rintro e w' ⟨rfl,hb⟩
     exact⟨_,[],rfl,rfl,SvRow.nil _,hb⟩
theorem lawReads_any (s:ByteArray) (w:World) (hm:MaxCell w) (_hs:s.size≤140737488351232) :
 Calls Tryz.prog 3 #[.string s] w fun e w'=>e=.returned (.bool true)∧Below w.heap.size w w':=by
 have HZ:0 < w.heap.size:=by obtain⟨m,hm⟩:=hm;exact World.block_lt_of_cell? w _ hm
 have HMX:Hid (∀ W,Below w.heap.size w W→MaxCell W):=fun W hW=>hm.below hW HZ
 have HAW:=Lh (fun W (hW:Below w.heap.size w W)=>awake07 W (HMX.out W hW))
 by_cases hb: (6000:Int) < (s.size:Int)
 · clear hm HZ
   go_enter Tryz.func3,Tryz.ntmps3
   go_wp2_with fail
   refine(HAW.out _ (Below.refl _ _)).mono ?_
   rintro e w4 ⟨rfl,hb4⟩
   go_wp2
   go_ret
   exact⟨rfl,hb4⟩
 · obtain⟨L,er,l,c,H1,H2⟩:=reads_both s (by omega)
   have HR1:=Lh (H1 w hm)
   have HR2:=Lh H2
   clear hm HZ H1 H2
   go_enter Tryz.func3,Tryz.ntmps3
   go_wp2_with fail
   refine HR1.out.mono ?_
   rintro e w1 ⟨v1,l1,hl1,rfl,hr1,hb1⟩
   obtain⟨ad1,cap1,rfl⟩:=hr1.len
   have hal1:=(Below.refl w1.heap.size w1).alloc (Nat.le_refl _) (.cells #[.int .i64 er,.int .i64 l,.int .i64 c] 28)
   have HF1:=Lh (show FtB (w1.alloc (.cells #[.int .i64 er,.int .i64 l,.int .i64 c] 28)) w1.heap.size er l c from heap_alloc_new w1 _)
   have HS1:=Lh (hr1.keep hal1)
   have HB1:=Lh (hb1.trans (hal1.mono hb1.size))
   obtain⟨W1,hW1⟩:∃ W,(w1.alloc (.cells #[.int .i64 er,.int .i64 l,.int .i64 c] 28))=W:=⟨_,rfl⟩
   rw[hW1] at HF1 HS1 HB1
   replace hW1:=Lh hW1
   have HL1:=Lh hl1
   clear hr1 hb1 hal1 hl1 HR1
   go_wp2_with fail
   rw[hW1.out]
   refine(HR2.out _).mono ?_
   rintro e w2 ⟨v2,l2,hl2,rfl,hr2,hb2⟩
   obtain⟨ad2,cap2,rfl⟩:=hr2.len
   have hal2:=(Below.refl w2.heap.size w2).alloc (Nat.le_refl _) (.cells #[.int .i64 er,.int .i64 l,.int .i64 c] 28)
   have f1:=(HF1.out.below hb2).below hal2
   have f2:FtB (w2.alloc (.cells #[.int .i64 er,.int .i64 l,.int .i64 c] 28)) w2.heap.size er l c:=heap_alloc_new w2 _
   have HS2:=Lh ((HS1.out.keep hb2).keep hal2)
   have HT2:=Lh (hr2.keep hal2)
   have HB2:=Lh ((HB1.out.trans (hb2.mono HB1.out.size)).trans (hal2.mono (Nat.le_trans HB1.out.size hb2.size)))
   have hbb2:=HB2.out
   obtain⟨W2,hW2⟩:∃ W,(w2.alloc (.cells #[.int .i64 er,.int .i64 l,.int .i64 c] 28))=W:=⟨_,rfl⟩
   rw[hW2] at f1 f2 HS2 HT2 HB2
   replace hW2:=Lh hW2
   have HSM:=Lh (same07_yes HS2.out HT2.out (HL1.out.trans hl2.symm))
   have HG1:=Lh f1;have HG2:=Lh f2
   clear hr2 hb2 hal2 hl2 HF1 HS1 f1 f2 hbb2
   go_upto_region 5 with fail
   rw[hW2.out]
   go_wp2_with fail
   refine HSM.out.mono ?_
   rintro e w3 ⟨rfl,hb3⟩
   obtain⟨p0,p1,p2⟩:=(HG1.out.below hb3).facts
   obtain⟨q0,q1,q2⟩:=(HG2.out.below hb3).facts
   have HB3:=Lh (HB2.out.trans (hb3.mono HB2.out.size))
   clear hb3
   go_wp2_with fail
   refine(HAW.out _ HB3.out).mono ?_
   rintro e w4 ⟨rfl,hb4⟩
   have HB4:=Lh (HB3.out.trans (hb4.mono HB3.out.size))
   clear hb4
   go_wp2
   go_ret
   exact⟨rfl,HB4.out⟩
end Go.Proofs.YthlofmnmacpogaaGreatDoor
namespace Go.Proofs.YthlofmnmacpogaaGreatDoor.declReads
open Go.ChangeShapes Go.WideShapes Go.ChangeAt Go.RowKit
open Go.ChangeMaps (open_string shut_string)
theorem own:ownKnob Tryz.prog.godebug=none:=by kernel_rfl
theorem reads (os:Os) {H:Type} (enc:TypeId × Value→H):∃ places,DataW.whole enc Tryz.prog ((World.laidAll Tryz.prog os Rows.declReadsRow.laid).forCall (fun _ _=>0) ⟨#[],#[.string ⟨#[]⟩],[]⟩).memory Tryz.f3.params.toList Rows.declReadsSpec.vars false #[Value.string ⟨#[]⟩].toList 8=some ([.lit (.string [])],[],places):=
 ⟨[],by kernel_rfl⟩
theorem okIn (os:Os):Input.okWideB Tryz.prog ((World.laidAll Tryz.prog os Rows.declReadsRow.laid).forCall (fun _ _=>0) ⟨#[],#[.string ⟨#[]⟩],[]⟩) 3 ⟨#[],#[.string ⟨#[]⟩],[]⟩ = true:=by kernel_rfl
theorem laid_met (os:Os):laidMetH Tryz.prog Rows.declReadsRow.laid ((World.laidAll Tryz.prog os Rows.declReadsRow.laid).forCall (fun _ _=>0) ⟨#[],#[.string ⟨#[]⟩],[]⟩).memory:=by
 rw[MakeChecks.laidMetH_plain _ _ _ (by kernel_rfl)];exact laidMet_laidAll _ (by kernel_rfl) (by kernel_rfl)
theorem lifted (os:Os) (started:os.Started) (H:Type) (enc:TypeId × Value→H) (F:Stop.Interp) :
 ReturnsInHanded {} Tryz.checked os 3 .any ((OpenSpec.ofChange Rows.declReadsSpec).preRow enc Tryz.prog Tryz.f3 Rows.declReadsRow.domain false Rows.declReadsRow.laid) (((OpenSpec.ofChange Rows.declReadsSpec).at F).post enc Tryz.prog Tryz.f3 false true false false):=by
 obtain⟨places,hx⟩:=reads os enc
 refine returnsInHanded_of_row (C:=Tryz.checked) (s:=OpenSpec.ofChange Rows.declReadsSpec) own started (by kernel_rfl) Tryz.func3
  ⟨World.laidAll Tryz.prog os Rows.declReadsRow.laid,fun _ _=>0,⟨#[],#[.string ⟨#[]⟩],[]⟩,World.laidAll_os _ _ _,World.shaped_of_ZipB (by kernel_rfl) (by kernel_rfl),(Input.okWide_of_okWideB (base:=0) (okIn os)).1,(Input.okWide_of_okWideB (okIn os)).2,
    OpenSpec.preRow_of_cond 8 hx (by kernel_rfl) (fun k hk=>by cases hk) (by kernel_rfl) (laid_met os),by
     simp only[Assume.holds]
     exact⟨by simp,by simp,fun _=>Modest.zero,by simp,by simp⟩⟩ ?_
 intro W base args ds gs before hval0 hW _ _ hsz _ hsh _
 obtain⟨m,hm⟩:=Tryz.laysM144.s1_3 W hsh
 have hval:∀ (j:Nat) t v,Tryz.f3.params[j]?=some t→args[j]?=some v→Value.okWide Tryz.prog W .any base t v:=hval0
 have hW':=hW
 obtain⟨p,q,hA0,hV,rfl,hfz,hnd⟩:=hW
 have hA:DataW.TrodAll enc Tryz.prog W 0 (fun _=>true) true Tryz.f3.params.toList args.toList ds p:=hA0
 rw[Tryz.params3] at hA hval hsz
 obtain⟨v0,vs0,d0,ds0,p0,q0,hargs,rfl,rfl,h0,r0⟩:=trodAll_cons hA
 obtain⟨rfl,rfl,rfl⟩:=trodAll_nil r0
 obtain rfl:args= #[v0]:=by cases args;simp_all
 obtain⟨rfl,rfl⟩:=trodVars_none hV
 obtain⟨a0,rfl,rfl,rfl,w0⟩:=open_string Tryz.underlying9 (hval 0 9 v0 rfl rfl) h0
 clear hA0 hval0
 have w1:a0.size≤140737488351232:=by
  have:=sized_string hsz (j:=0) (t:=9) (bytes:=a0.data.toList) rfl rfl
  simpa [reachBytes] using this
 simp only[List.append_nil] at hW'
 refine(lawReads_any a0 W ⟨m,hm⟩ w1).mono fun e W' ⟨he,hg⟩ =>?_
 subst he
 exact⟨_,rfl,_,_,_,[],[],[],hW',(trodAll_cons_mk (shut_bool Tryz.underlying4 _) trodAll_mk0),(trodAll_cons_mk (shut_string Tryz.underlying9 w0) trodAll_mk0),rfl,hg.frame _,fun h=>by cases h⟩
theorem said:Rows.DeclReadsSaid:=
 OpenClaim.holds_of_cond 3 Tryz.f3 rfl rfl rfl rfl rfl rfl rfl ⟨rfl,rfl,rfl,rfl,rfl⟩ rfl rfl rfl rfl rfl (by kernel_rfl) Tryz.func3 (by kernel_rfl)
  (of_decide_eq_true (by kernel_rfl)) (by unfold Func.isWrapper;first| (rw[if_pos (by decide +kernel)];kernel_rfl)| (rw[if_neg (by decide +kernel)];exact⟨rfl,rfl⟩))
  (fun os started H enc _ F=>by rw[OpenClaim.pre_eq_preRow];exact lifted os started H enc F)
theorem plain (f:FuncId) (fn:Func) (hf:Tryz.pinned.checked.prog.funcNamed "warder/warderlaw07.DeclReads" = some f) (hfn:Tryz.pinned.checked.prog.funcs[f]?=some fn) :
 false=Tryz.pinned.checked.prog.looks []∧∀ (j:Nat) t,fn.params[j]?=some t→Tryz.pinned.checked.prog.wantsStandIn t=false:=by
 obtain rfl:f=3:=Option.some.inj ((show Tryz.prog.funcNamed "warder/warderlaw07.DeclReads" = some 3 by kernel_rfl).symm.trans hf) |>.symm
 obtain rfl:fn=Tryz.f3:=(Option.some.inj (Tryz.func3.symm.trans hfn)).symm
 refine⟨by kernel_rfl,fun j t ht=>?_⟩
 rw[Tryz.params3] at ht
 obtain rfl:t=9:=by simpa using Array.mem_of_getElem? ht
 exact(show Tryz.prog.wantsStandIn 9=false by kernel_rfl)
theorem proved:Rows.DeclReadsCardSaid:=
 Claim7.holds_tied_plain_at .later [] _ _ _ _ said (fun _ h=>by cases h) (by kernel_rfl) (fun _ h=>by cases h) declReads_row_tie rfl ⟨rfl,rfl⟩ (by kernel_rfl) rfl plain (by kernel_rfl)
end Go.Proofs.YthlofmnmacpogaaGreatDoor.declReads
