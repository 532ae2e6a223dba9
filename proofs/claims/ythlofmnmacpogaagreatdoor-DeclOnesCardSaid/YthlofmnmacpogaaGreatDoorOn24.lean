/- A part of a proof: 'warder/warderlaw07.DeclOnes' returns true for every input and leaves its arguments as they were; no condition. The row lists package-level variables of Go's library with what they hold at the start; the card ties them to the program's text. -/
import Derived.Test.YthlofmnmacpogaaGreatDoorOn23
import Derived.Test.YthlofmnmacpogaaGreatDoorOn01
import Derived.Test.YthlofmnmacpogaaGreatDoorOn07
namespace Go.Proofs.YthlofmnmacpogaaGreatDoor
open Go.RowKit
theorem info_stmt: (Tryz.prog.info? 37).map (fun i=>(i.zero,i.size,i.bytes))=some (some (.agg #[.int .i64 0,.string ⟨#[]⟩,.int .i64 0,.int .i64 0,.int .i64 0,.slice none 0 0,.string ⟨#[]⟩,.string ⟨#[]⟩,.string ⟨#[]⟩,.int .i64 0,.slice none 0 0,.bool false]),12,160):=by kernel_rfl
theorem dread_results {W:World} {tmps:Array Value} {f:Nat} {v:Value} {e l c:Int} (hf:FtB W f e l c) (h2:tmps[2]?.getD undef=v) (h3:tmps[3]?.getD undef=.pointer (some ⟨f,0,none⟩)) :
 (results Tryz.f8 tmps).run Tryz.prog W=.ok (.tuple #[v,.agg #[.int .i64 e,.int .i64 l,.int .i64 c]]) W:=by
 obtain⟨u0,u1,u2⟩:=hf.facts
 simp[results,Tryz.results8,go_sem,h2,h3,u0,u1,u2]
theorem StRow.mono {w:World} {B B2:Nat} {v:Value} {l:List Sv} (h:StRow w B v l) (hB:B2≤B):StRow w B2 v l:=
 ⟨owns_mono h.row hB,fun e he=>owns_mono (h.nm e he) hB,fun e he=>owns_mono (h.it e he) hB⟩
set_option maxRecDepth 100000 in
set_option maxHeartbeats 4000000 in
theorem dread_bad (s:ByteArray) (w:World) (hm:MaxCell w) (hs:s.size≤4294967200) (h0: (tokRes s).er≠0) :
 Calls Tryz.prog 8 #[.string s] w (DReadPost w (readD s)):=by
 have HZ:0 < w.heap.size:=by obtain⟨m,hm⟩:=hm;exact World.block_lt_of_cell? w _ hm
 have HTK:=Lib.hid (tokens_any s _ (hm.below ((Below.refl w.heap.size w).alloc (Nat.le_refl _) (.cells #[.int .i64 0,.int .i64 0,.int .i64 0] 28)) HZ) hs)
 have HF0:=Lib.hid (show FtB (w.alloc (.cells #[.int .i64 0,.int .i64 0,.int .i64 0] 28)) w.heap.size 0 0 0 from heap_alloc_new w _)
 have HB0:=Lib.hid ((Below.refl w.heap.size w).alloc (Nat.le_refl _) (.cells #[.int .i64 0,.int .i64 0,.int .i64 0] 28))
 obtain⟨er,her⟩:∃ e,(tokRes s).er=e:=⟨_,rfl⟩
 obtain⟨tl,htl⟩:∃ e,(tokRes s).line=e:=⟨_,rfl⟩
 obtain⟨tc,htc⟩:∃ e,(tokRes s).col=e:=⟨_,rfl⟩
 rw[her] at h0
 have HER:=Lib.hid her;have HTL:=Lib.hid htl;have HTC:=Lib.hid htc
 have HE0:=Lib.hid h0
 have HU:Hid (readD s=.bad er tl tc):=by unfold Hid readD;rw[HER.out,if_pos h0,HTL.out,HTC.out]
 have hne: (er !=0)=true:=by simpa using h0
 clear h0 her htl htc hm
 go_enter Tryz.func8,Tryz.ntmps8
 go_wp2_with fail
 refine HTK.out.mono ?_
 rintro en w1 ⟨v,rfl,hown,hb1⟩
 rw[HER.out,HTL.out,HTC.out,faultV_no HE0.out]
 have hf1:=HF0.out.below hb1
 obtain⟨q0,q1,q2⟩:=hf1.facts
 obtain⟨z0,z1,z2⟩:=hf1.free
 have hlt1:=hf1.lt
 have HBB:=Lib.hid (HB0.out.trans (hb1.mono HB0.out.size))
 have HE:=Lib.hid ((hf1.stored er tl tc).alloc (.cells #[.int .i64 er,.int .i64 tl,.int .i64 tc] 28)).facts
 clear hown hb1 hf1
 go_wp2
 go_region
 go_wp2
 obtain⟨e0,e1,e2⟩:=HE.out
 refine bodyPost_ret (v:=.tuple #[.slice none 0 0,.agg #[.int .i64 er,.int .i64 tl,.int .i64 tc]]) (by simp[results,Tryz.results8,go_sem,e0,e1,e2]) rfl ?_
 rw[HU.out]
 exact⟨rfl,((below_fault HBB.out (Nat.le_refl _) _ _ _).alloc (by have:=HBB.out.size;simp;omega) _).drew⟩
set_option maxRecDepth 100000 in
set_option maxHeartbeats 8000000 in
theorem dread_ok (s:ByteArray) (w:World) (hm:MaxCell w) (hs:s.size≤4294967200) (h0: (tokRes s).er=0) :
 Calls Tryz.prog 8 #[.string s] w (DReadPost w (readD s)):=by
 have HZ:0 < w.heap.size:=by obtain⟨m,hm⟩:=hm;exact World.block_lt_of_cell? w _ hm
 have HTK:=Lib.hid (tokens_any s _ (hm.below ((Below.refl w.heap.size w).alloc (Nat.le_refl _) (.cells #[.int .i64 0,.int .i64 0,.int .i64 0] 28)) HZ) hs)
 have HF0:=Lib.hid (show FtB (w.alloc (.cells #[.int .i64 0,.int .i64 0,.int .i64 0] 28)) w.heap.size 0 0 0 from heap_alloc_new w _)
 have HB0:=Lib.hid ((Below.refl w.heap.size w).alloc (Nat.le_refl _) (.cells #[.int .i64 0,.int .i64 0,.int .i64 0] 28))
 have HS0:=Lib.hid (show(w.alloc (.cells #[.int .i64 0,.int .i64 0,.int .i64 0] 28)).heap.size=w.heap.size+1 by simp)
 have HER:=Lib.hid h0
 obtain⟨X,hX,hXl⟩:=tokRes_endD s h0
 obtain⟨T,hT⟩:∃ T,(tokRes s).T=T:=⟨_,rfl⟩
 have HT:=Lib.hid hT
 have hTl:T.length≤4097:=by rw[←hT,hX];simp;omega
 have hEnd:∀ a:Int,(tkAt T (a - 1)).kind≠5→0 < a→a < T.length+1→a < T.length:=by
  intro a h1 h2 h3
  refine Classical.byContradiction fun h4=>h1 ?_
  have e:a - 1= ((X.length:Nat):Int):=by rw[←hT,hX] at h3 h4;simp at h3 h4;omega
  have:T[X.length]?=some (endTk s):=by rw[←hT,hX];simp
  rw[e,tkAt_some this];rfl
 have HEND:=Lib.hid hEnd
 have hTP:0 < T.length:=by rw[←hT,hX];simp
 have HTP:=Lib.hid hTP
 have HTL6:=Lib.hid hTl
 have HU:Hid (readD s=readS T T.length 0 []):=by unfold Hid readD;rw[if_neg (by omega),hT]
 clear hX hXl hEnd hT h0 hm hTl hTP
 go_enter Tryz.func8,Tryz.ntmps8
 go_wp2_with fail
 refine HTK.out.mono ?_
 rintro en w1 ⟨v,rfl,hown,hb1⟩
 rw[HT.out] at hown
 rw[HER.out,faultV_ok]
 obtain⟨g,cap,hv,hg,hgs⟩:=owns_shape hown HTP.out
 rw[HS0.out] at hg
 subst hv
 have hf1:=(HF0.out.below hb1).alloc (.cells #[.int .i64 0,.int .i64 0,.int .i64 0] 28)
 have hal:=(Below.refl w1.heap.size w1).alloc (Nat.le_refl _) (.cells #[.int .i64 0,.int .i64 0,.int .i64 0] 28)
 have hs1:=hb1.size
 rw[HS0.out] at hs1
 obtain⟨W1,hW1⟩:∃ W,W=w1.alloc (.cells #[.int .i64 0,.int .i64 0,.int .i64 0] 28):=⟨_,rfl⟩
 have hsW:W1.heap.size=w1.heap.size+1:=by rw[hW1];simp
 have HOW:=Lib.hid (show W1.ownsRow _ _ _ _ _ _ by rw[hW1];exact hown.alloc (.cells #[.int .i64 0,.int .i64 0,.int .i64 0] 28))
 have HTI:=Lib.hid (tkIn_ownsD (B:=W1.heap.size) HOW.out (Nat.le_refl _) (by have:=HTL6.out;omega))
 have HBB:=Lib.hid (show Below w.heap.size w W1 by rw[hW1];exact(HB0.out.trans (hb1.mono HB0.out.size)).trans (hal.mono (Nat.le_trans HB0.out.size hb1.size)))
 have F1:=Lib.hid (show FtB W1 w.heap.size 0 0 0 by rw[hW1];exact hf1)
 have HW1:=Lib.hid hW1
 have HSW:=Lib.hid hsW
 clear hown hb1 hf1 hal hsW
 go_wp2
 rw[←HW1.out]
 clear hW1
 go_loopw [6,7] (fun v6 v7 wr=>∃ (k i:Nat) (l:List Sv),v7=.int .i64 i∧Hid (Below W1.heap.size W1 wr∧StRow wr W1.heap.size v6 l∧readS T T.length 0 []=readS T k i (l.map (·.1))∧i < T.length∧T.length≤i+k∧l.length≤i)) (fun _ v7 _=>T.length - (intOf v7).toNat)
 case atStart=>exact⟨T.length,0,[],rfl,Below.refl _ _,StRow.nil _ _,rfl,HTP.out,by omega,Nat.le_refl _⟩
 case round=>
  obtain⟨k,i,l,rfl,HALL⟩:=hrel
  have HB:=Lib.hid HALL.out.1
  have HR:=Lib.hid HALL.out.2.1
  have HQ:=Lib.hid HALL.out.2.2.1
  have hiT:i < T.length:=HALL.out.2.2.2.1
  have HK:=Lib.hid HALL.out.2.2.2.2
  clear HALL
  obtain⟨y,hy⟩:∃ y,T[i]?=some y:=⟨_,List.getElem?_eq_getElem hiT⟩
  have HY:=Lib.hid (show tkAt T i=y from tkAt_some hy)
  obtain⟨g',off,cap',e1,-,hgw,d0,-,-,-,-⟩:=(HTI.out.below HB.out).at hy
  obtain⟨⟨rfl,rfl⟩,rfl⟩: (g=g'∧off=0)∧cap=cap':=by simpa [eq_comm] using e1
  clear hy
  rw[Nat.zero_add] at d0
  have hfr:=F1.out.below (HB.out.mono (by have:=F1.out.lt;omega) |> fun h=>h)
  have F2:=Lib.hid hfr
  obtain⟨q0,q1,q2⟩:=hfr.facts
  obtain⟨z0,z1,z2⟩:=hfr.free
  have hltF:=hfr.lt
  have hi0: (0:Int)≤(i:Int):=by omega
  have hi1: (i:Int) < (T.length:Int):=by omega
  clear hfr
  by_cases h5:y.kind=5
  · have h5b: (y.kind !=5)=false:=by simp[h5]
    have HE:Hid (readS T T.length 0 []=.ok (l.map (·.1))):=by
     unfold Hid;rw[HQ.out]
     cases k with
     | zero=>rfl
     | succ k=>rw[readS,if_pos (by rw[HY.out];exact h5)]
    clear h5
    have HF3:=Lib.hid (F2.out.stored 0 0 0)
    have HR3:=Lib.hid ((HR.out.mono HBB.out.size).fault F2.out 0 0 0)
    have HB3:=Lib.hid (below_fault (HBB.out.trans (HB.out.mono HBB.out.size)) (Nat.le_refl _) (.int .i64 0) (.int .i64 0) (.int .i64 0))
    go_wp2
    refine bodyPost_ret (dread_results HF3.out rfl rfl) rfl ?_
    rw[HU.out,HE.out]
    exact⟨l,_,rfl,rfl,HR3.out,HB3.out⟩
  · have h5b: (y.kind !=5)=true:=by simpa using h5
    have HN5:=Lib.hid h5
    clear h5
    cases hp:oneD T i with
    | bad e l0 c=>
      have HE:Hid (readS T T.length 0 []=.bad e l0 c):=by
       unfold Hid;rw[HQ.out]
       obtain⟨q,rfl⟩:∃ q,k=q+1:=⟨k - 1,by have:=HK.out.1;omega⟩
       rw[readS,if_neg (by rw[HY.out];exact HN5.out),hp]
      have hne:=oneD_bad hp
      have hneb: (e !=0)=true:=by simpa using hne
      have HP:=Lib.hid hp
      clear hp hne
      go_wp2_with fail
      refine(done_any ((HTI.out.below HB.out).mono HB.out.size) i).mono ?_
      rw[HP.out]
      rintro en w2 ⟨rfl,hb2⟩
      rw[show stV noSt (.slice none 0 0) (.slice none 0 0)=.agg #[.int .i64 0,.string ⟨#[]⟩,.int .i64 0,.int .i64 0,.int .i64 0,.slice none 0 0,.string ⟨#[]⟩,.string ⟨#[]⟩,.string ⟨#[]⟩,.int .i64 0,.slice none 0 0,.bool false] from rfl]
      have F3:=Lib.hid ((((F2.out.below hb2).stored e l0 c).alloc (.cells #[.int .i64 0,.string ⟨#[]⟩,.int .i64 0,.int .i64 0,.int .i64 0,.slice none 0 0,.string ⟨#[]⟩,.string ⟨#[]⟩,.string ⟨#[]⟩,.int .i64 0,.slice none 0 0,.bool false] 37)).alloc (.cells #[.int .i64 e,.int .i64 l0,.int .i64 c] 28)).drew
      have BL:=Lib.hid ((((below_fault ((HBB.out.trans (HB.out.mono HBB.out.size)).trans (hb2.mono (Nat.le_trans HBB.out.size HB.out.size))) (Nat.le_refl _) (.int .i64 e) (.int .i64 l0) (.int .i64 c)).alloc (by have:=hb2.size;have:=HB.out.size;have:=HBB.out.size;simp;omega) (.cells #[.int .i64 0,.string ⟨#[]⟩,.int .i64 0,.int .i64 0,.int .i64 0,.slice none 0 0,.string ⟨#[]⟩,.string ⟨#[]⟩,.string ⟨#[]⟩,.int .i64 0,.slice none 0 0,.bool false] 37)).alloc (by have:=hb2.size;have:=HB.out.size;have:=HBB.out.size;simp;omega) (.cells #[.int .i64 e,.int .i64 l0,.int .i64 c] 28)).drew)
      have hf2:=F2.out.below hb2
      clear q0 q1 q2 z0 z1 z2 hltF
      obtain⟨q0,q1,q2⟩:=hf2.facts
      obtain⟨z0,z1,z2⟩:=hf2.free
      have hltF:=hf2.lt
      clear hf2 hb2
      go_wp2
      go_region
      go_wp2
      refine bodyPost_ret (dread_results F3.out rfl rfl) rfl ?_
      rw[HU.out,HE.out]
      exact⟨rfl,BL.out⟩
    | ok x a=>
      obtain⟨ha0,ha1,ha2,ha3⟩:=oneD_ok hp
      have haT:=HEND.out a ha3 (by omega) ha2
      obtain⟨ka,hka⟩:∃ ka:Nat,a=ka:=⟨a.toNat,by omega⟩
      subst hka
      have HE:Hid (∃ q,k=q+1∧readS T T.length 0 []=readS T q ka (l.map (·.1) ++ [x])):=by
       unfold Hid
       obtain⟨q,rfl⟩:∃ q,k=q+1:=⟨k - 1,by have:=HK.out.1;omega⟩
       refine⟨q,rfl,?_⟩
       rw[HQ.out,readS,if_neg (by rw[HY.out];exact HN5.out),hp]
      have HKA:=Lib.hid (show i+2≤ka∧ka < T.length by omega)
      have HP:=Lib.hid hp
      clear hp ha0 ha1 ha2 ha3 haT
      go_wp2_with fail
      refine(done_any ((HTI.out.below HB.out).mono HB.out.size) i).mono ?_
      rw[HP.out]
      rintro en w2 ⟨nv,iv,rfl,hn,hi,hb2⟩
      obtain⟨ad5,cap5,hv5⟩:=owns_len hn
      obtain⟨n5,hn5⟩:∃ n,x.names.length=n:=⟨_,rfl⟩
      rw[hn5] at hv5
      obtain⟨ad6,cap6,hv6⟩:=owns_len hi
      obtain⟨n6,hn6⟩:∃ n,x.ifs.length=n:=⟨_,rfl⟩
      rw[hn6] at hv6
      clear hn5 hn6
      subst hv5 hv6
      unfold stV
      have HB2:=Lib.hid (((hb2.mono HB.out.size).alloc (by have:=hb2.size;have:=HB.out.size;omega) (.cells #[.int .i64 x.kind,.string x.name,.int .i64 x.line,.int .i64 x.col,.int .i64 x.init,(.slice ad5 n5 cap5),.string x.role,.string x.stage,.string x.event,.int .i64 x.times,(.slice ad6 n6 cap6),.bool x.final] 37)).alloc (by have:=hb2.size;have:=HB.out.size;simp;omega) (.cells #[.int .i64 0,.int .i64 0,.int .i64 0] 28))
      have HBr:=Lib.hid ((hb2.alloc hb2.size (.cells #[.int .i64 x.kind,.string x.name,.int .i64 x.line,.int .i64 x.col,.int .i64 x.init,(.slice ad5 n5 cap5),.string x.role,.string x.stage,.string x.event,.int .i64 x.times,(.slice ad6 n6 cap6),.bool x.final] 37)).alloc (by have:=hb2.size;simp;omega) (.cells #[.int .i64 0,.int .i64 0,.int .i64 0] 28))
      have HN3:=Lib.hid (owns_mono ((hn.alloc (.cells #[.int .i64 x.kind,.string x.name,.int .i64 x.line,.int .i64 x.col,.int .i64 x.init,(.slice ad5 n5 cap5),.string x.role,.string x.stage,.string x.event,.int .i64 x.times,(.slice ad6 n6 cap6),.bool x.final] 37)).alloc (.cells #[.int .i64 0,.int .i64 0,.int .i64 0] 28)) HB.out.size)
      have HI3:=Lib.hid (owns_mono ((hi.alloc (.cells #[.int .i64 x.kind,.string x.name,.int .i64 x.line,.int .i64 x.col,.int .i64 x.init,(.slice ad5 n5 cap5),.string x.role,.string x.stage,.string x.event,.int .i64 x.times,(.slice ad6 n6 cap6),.bool x.final] 37)).alloc (.cells #[.int .i64 0,.int .i64 0,.int .i64 0] 28)) HB.out.size)
      have HR3:=Lib.hid (HR.out.below HBr.out)
      have hlen:l.length≤4097:=by have:=HK.out.2;have:=HTL6.out;omega
      have hszb:W1.heap.size≤w2.heap.size:=Nat.le_trans HB.out.size hb2.size
      clear hn hi hb2 q0 q1 q2 z0 z1 z2
      go_wp2_with (at_builtin;refine app1 ((w2.alloc (.cells #[.int .i64 x.kind,.string x.name,.int .i64 x.line,.int .i64 x.col,.int .i64 x.init,(.slice ad5 n5 cap5),.string x.role,.string x.stage,.string x.event,.int .i64 x.times,(.slice ad6 n6 cap6),.bool x.final] 37)).alloc (.cells #[.int .i64 0,.int .i64 0,.int .i64 0] 28)) #[.int .i64 x.kind,.string x.name,.int .i64 x.line,.int .i64 x.col,.int .i64 x.init,(.slice ad5 n5 cap5),.string x.role,.string x.stage,.string x.event,.int .i64 x.times,(.slice ad6 n6 cap6),.bool x.final] rfl _ _ 23 rfl W1.heap.size 37 _ 12 160 Tryz.underlying23 info_stmt rfl (by decide) (by decide) _ _ _ rfl (by exact HR3.out.row) rfl (by simp) rfl (by simp[Value.oneCell']) (by omega) (by simp;omega) ?_;intro v' w3 hown' hg' hb')
      obtain⟨q,hq,hE⟩:=HE.out
      have HR4:=Lib.hid (HR3.out.put (x:=(x,(.slice ad5 n5 cap5),(.slice ad6 n6 cap6))) hg' hown' HN3.out HI3.out)
      have HB4:=Lib.hid ((HB.out.trans HB2.out).trans hb')
      have HQ4:=Lib.hid hE
      have hq1:=hq
      clear hown' hg' hb' hE hq
      go_wp2
      go_roundw
      case rel=>exact⟨q,ka,l ++ [(x,(.slice ad5 n5 cap5),(.slice ad6 n6 cap6))],rfl,HB4.out,HR4.out,by rw[HQ4.out,List.map_append];rfl,HKA.out.2,by have:=HK.out.1;have:=HKA.out.1;omega,by have:=HK.out.2;have:=HKA.out.1;rw[List.length_append,List.length_singleton];omega⟩
      case measure=>
       have e1: (intOf (.int .i64 (ka:Int))).toNat=ka:=rfl
       have e2: (intOf (.int .i64 (i:Int))).toNat=i:=rfl
       have:=HKA.out.1
       first
       | (rw[e1,e2];omega)
       | (simp[intOf];omega)
end Go.Proofs.YthlofmnmacpogaaGreatDoor
namespace Go.Proofs.YthlofmnmacpogaaGreatDoor
open Go.RowKit
def ItRow (w:World) (v:Value) (T:List It):Prop:=∃ B,w.ownsRow B 87 9 v T.length (itFlat T)
theorem ItRow.keep {w w':World} {v:Value} {T:List It} (h:ItRow w v T) (hb:Below w.heap.size w w'):ItRow w' v T:=by
 obtain⟨B,h⟩:=h;exact⟨B,owns_below h hb⟩
theorem ItRow.drewN {w:World} {v:Value} {T:List It} (h:ItRow w v T) (n:Nat):ItRow (w.drewN n) v T:=h
theorem ItRow.len {w:World} {v:Value} {T:List It} (h:ItRow w v T):∃ ad cap,v=.slice ad T.length cap:=by
 obtain⟨B,h⟩:=h;exact owns_len h
theorem ItRow.at {w:World} {v:Value} {T:List It} (h:ItRow w v T) {k:Nat} {x:It} (hx:T[k]?=some x) :
 ∃ g cap,v=.slice (some ⟨g,0,none⟩) T.length cap∧g < w.heap.size∧w.cell? ⟨g,k * 9,none⟩ = some (.int .i64 x.op)∧w.cell? ⟨g,k * 9+1,none⟩ = some (.string x.ln)∧w.cell? ⟨g,k * 9+2,none⟩ = some (.int .i64 x.lnum)∧
  w.cell? ⟨g,k * 9+3,none⟩ = some (.string x.rn)∧w.cell? ⟨g,k * 9+4,none⟩ = some (.int .i64 x.rnum)∧w.cell? ⟨g,k * 9+5,none⟩ = some (.string x.name)∧w.cell? ⟨g,k * 9+6,none⟩ = some (.string x.user)∧
  w.cell? ⟨g,k * 9+7,none⟩ = some (.int .i64 x.line)∧w.cell? ⟨g,k * 9+8,none⟩ = some (.int .i64 x.col):=by
 obtain⟨B,h⟩:=h
 have hk:=(List.getElem?_eq_some_iff.1 hx).1
 obtain⟨g,cap,rfl,hg,hgs⟩:=owns_shape h (by omega)
 have c:=fun j (hj:j < 9)=>(World.ownsRow.cellAt h (k * 9+j) (by omega)).trans (itFlat_get _ k j x hx hj)
 exact⟨g,cap,rfl,hgs,c 0 (by omega),c 1 (by omega),c 2 (by omega),c 3 (by omega),c 4 (by omega),c 5 (by omega),c 6 (by omega),c 7 (by omega),c 8 (by omega)⟩
end Go.Proofs.YthlofmnmacpogaaGreatDoor
namespace Go.Proofs.YthlofmnmacpogaaGreatDoor
open Go.RowKit
theorem svFlat_cons (x:Sv) (l:List Sv):svFlat (x :: l)=svCells x ++svFlat l:=by simp[svFlat]
theorem svFlat_get (l:List Sv) (i j:Nat) (x:Sv) (hx:l[i]?=some x) (hj:j < 12): (svFlat l)[i * 12+j]?= (svCells x)[j]?:=by
 induction l generalizing i with
 | nil=>simp at hx
 | cons y r ih=>
   rw[svFlat_cons]
   cases i with
   | zero=>
     simp only[List.getElem?_cons_zero,Option.some.injEq] at hx
     subst hx
     rw[Nat.zero_mul,Nat.zero_add,List.getElem?_append_left (by simp[svCells];omega)]
   | succ i=>
     rw[List.getElem?_append_right (by simp[svCells];omega)]
     rw[show(i+1) * 12+j - (svCells y).length=i * 12+j by simp[svCells];omega]
     exact ih i (by simpa using hx)
theorem owns_max {w:World} {base:Nat} {e:TypeId} {sz:Nat} {v:Value} {n:Nat} {xs:List Value} (h:w.ownsRow base e sz v n xs):n≤9223372036854775807:=by
 rcases h.2 with⟨_,h0⟩ | ⟨g,cap,cur,hv,hb,hg,hnc,hcm,_⟩
 · omega
 · unfold maxLen at hcm;omega
def NmRow (w:World) (v:Value) (l:List ByteArray):Prop:=∃ B,w.ownsRow B 9 1 v l.length (strV l)
theorem NmRow.keep {w w':World} {v:Value} {l:List ByteArray} (h:NmRow w v l) (hb:Below w.heap.size w w'):NmRow w' v l:=by
 obtain⟨B,h⟩:=h;exact⟨B,owns_below h hb⟩
theorem NmRow.len {w:World} {v:Value} {l:List ByteArray} (h:NmRow w v l):∃ ad cap,v=.slice ad l.length cap:=by
 obtain⟨B,h⟩:=h;exact owns_len h
theorem NmRow.at {w:World} {v:Value} {l:List ByteArray} (h:NmRow w v l) {k:Nat} {x:ByteArray} (hx:l[k]?=some x) :
 ∃ g cap,v=.slice (some ⟨g,0,none⟩) l.length cap∧g < w.heap.size∧w.cell? ⟨g,k,none⟩ = some (.string x):=by
 obtain⟨B,h⟩:=h
 have hk:=(List.getElem?_eq_some_iff.1 hx).1
 obtain⟨g,cap,rfl,hg,hgs⟩:=owns_shape h (by omega)
 have c:=(World.ownsRow.cellAt h k (by omega)).trans (show(strV l)[k]?=some (.string x) by unfold strV;rw[List.getElem?_map,hx];rfl)
 exact⟨g,cap,rfl,hgs,c⟩
def SvRow (w:World) (v:Value) (l:List Sv):Prop:=∃ B,StRow w B v l
theorem SvRow.keep {w w':World} {v:Value} {l:List Sv} (h:SvRow w v l) (hb:Below w.heap.size w w'):SvRow w' v l:=by
 obtain⟨B,h⟩:=h;exact⟨B,h.below hb⟩
theorem SvRow.len {w:World} {v:Value} {l:List Sv} (h:SvRow w v l):∃ ad cap,v=.slice ad l.length cap:=by
 obtain⟨B,h⟩:=h;exact owns_len h.row
theorem SvRow.at {w:World} {v:Value} {l:List Sv} (h:SvRow w v l) {k:Nat} {x:Sv} (hx:l[k]?=some x) :
 ∃ g cap,v=.slice (some ⟨g,0,none⟩) l.length cap∧g < w.heap.size∧w.cell? ⟨g,k * 12,none⟩ = some (.int .i64 x.1.kind)∧w.cell? ⟨g,k * 12+1,none⟩ = some (.string x.1.name)∧w.cell? ⟨g,k * 12+2,none⟩ = some (.int .i64 x.1.line)∧
  w.cell? ⟨g,k * 12+3,none⟩ = some (.int .i64 x.1.col)∧w.cell? ⟨g,k * 12+4,none⟩ = some (.int .i64 x.1.init)∧w.cell? ⟨g,k * 12+5,none⟩ = some x.2.1∧w.cell? ⟨g,k * 12+6,none⟩ = some (.string x.1.role)∧
  w.cell? ⟨g,k * 12+7,none⟩ = some (.string x.1.stage)∧w.cell? ⟨g,k * 12+8,none⟩ = some (.string x.1.event)∧w.cell? ⟨g,k * 12+9,none⟩ = some (.int .i64 x.1.times)∧w.cell? ⟨g,k * 12+10,none⟩ = some x.2.2∧w.cell? ⟨g,k * 12+11,none⟩ = some (.bool x.1.final)∧
  NmRow w x.2.1 x.1.names∧ItRow w x.2.2 x.1.ifs:=by
 obtain⟨B,h⟩:=h
 have hk:=(List.getElem?_eq_some_iff.1 hx).1
 have hm:=List.mem_of_getElem? hx
 obtain⟨g,cap,rfl,hg,hgs⟩:=owns_shape h.row (by omega)
 have c:=fun j (hj:j < 12)=>(World.ownsRow.cellAt h.row (k * 12+j) (by omega)).trans (svFlat_get _ k j x hx hj)
 exact⟨g,cap,rfl,hgs,c 0 (by omega),c 1 (by omega),c 2 (by omega),c 3 (by omega),c 4 (by omega),c 5 (by omega),c 6 (by omega),c 7 (by omega),c 8 (by omega),c 9 (by omega),c 10 (by omega),c 11 (by omega),⟨B,h.nm x hm⟩,⟨B,h.it x hm⟩⟩
set_option maxHeartbeats 4000000 in
theorem sameNames_any {w:World} {u v:Value} {T:List ByteArray} (ha:NmRow w u T) (hb:NmRow w v T) :
 Calls Tryz.prog 35 #[u,v] w fun e w'=>e=.returned (.bool true)∧∃ n,w'=w.drewN n:=by
 obtain⟨ad,cap,hu⟩:=ha.len
 obtain⟨ad2,cap2,hv⟩:=hb.len
 have hT:T.length≤9223372036854775807:=by obtain⟨_,h⟩:=ha;exact owns_max h
 have HA:=Lib.hid ha
 have HB:=Lib.hid hb
 subst hu
 subst hv
 clear ha hb
 go_enter Tryz.func35,Tryz.ntmps35
 go_wp2
 go_loopw [5] (fun i wr=>∃ k n:Nat,i=.int .i64 k∧k≤T.length∧wr=w.drewN n) (fun i _=>T.length - (intOf i).toNat)
 case atStart=>exact⟨0,0,by go_num,by omega,rfl⟩
 case round=>
  obtain⟨k,n,rfl,hk,rfl⟩:=hrel
  by_cases hlt:k < T.length
  · obtain⟨x,hx⟩:∃ x,T[k]?=some x:=⟨_,List.getElem?_eq_getElem hlt⟩
    obtain⟨g,c1,hg,hgl,a0⟩:=HA.out.at hx
    obtain⟨g2,c2,hg2,hgl2,b0⟩:=HB.out.at hx
    simp only[Value.slice.injEq,true_and] at hg hg2
    obtain⟨rfl,rfl⟩:=hg
    obtain⟨rfl,rfl⟩:=hg2
    have hkz: (k:Int) < (T.length:Int):=by omega
    clear hx
    go_wp2
    go_quiet (fail)
    go_wp2
    go_roundw
    case rel=>exact⟨k+1,_,by go_num,by omega,rfl⟩
    case measure=>simp[intOf];omega
  · have hkz: (T.length:Int)≤(k:Int):=by omega
    go_wp2
    go_ret
    exact⟨rfl,n,rfl⟩
end Go.Proofs.YthlofmnmacpogaaGreatDoor
namespace Go.Proofs.YthlofmnmacpogaaGreatDoor
open Go.RowKit
theorem Reads.len {w:World} {v:Value} {xs:List Value} (h:Reads w v xs):∃ ad cap,v=.slice ad xs.length cap∧xs.length≤maxLen:=by
 rcases h with⟨ad,cap,rfl,rfl⟩ | ⟨b,off,cap,rfl,_,hm,_⟩
 · exact⟨ad,cap,rfl,Nat.zero_le _⟩
 · exact⟨_,cap,rfl,hm⟩
theorem Reads.at {w:World} {ad:Option Addr} {n cap:Nat} {xs:List Value} (h:Reads w (.slice ad n cap) xs) (hn:0 < n):∃ b off,ad=some ⟨b,off,none⟩∧∀ t x,xs[t]?=some x→w.cell? ⟨b,off+t,none⟩ = some x:=by
 rcases h with⟨ad',cap',e,_⟩ | ⟨b,off,cap',e,_,_,hc⟩
 · cases e;omega
 · cases e;exact⟨b,off,rfl,hc⟩
end Go.Proofs.YthlofmnmacpogaaGreatDoor
namespace Go.Proofs.YthlofmnmacpogaaGreatDoor
open Go.RowKit
set_option maxHeartbeats 1000000 in
theorem rctok_any {w:World} {B:Nat} {lv:Value} {T:List Tk} (h:TkIn w B lv T) (i:Int) :
 Calls Tryz.prog 91 #[lv,.int .i64 i] w fun e w'=>e=.returned (tokV (tkAt T i))∧Below w.heap.size w w':=by
 have h':=h
 obtain⟨ad,cap,hv,hl,_⟩:=h'
 have hc:i < 0∨(0≤i∧(T.length:Int)≤i)∨∃ k:Nat,i=k∧k < T.length:=by
  by_cases h0:i < 0
  · exact .inl h0
  · by_cases h1: (T.length:Int)≤i
    · exact .inr (.inl ⟨by omega,h1⟩)
    · exact .inr (.inr ⟨i.toNat,by omega,by omega⟩)
 rcases hc with h0| ⟨h0,h1⟩ | ⟨k,rfl,hk⟩
 · have HN:Hid (tkAt T i=noTk):=by unfold Hid tkAt;rw[if_pos h0]
   subst hv
   clear h
   go_enter Tryz.func91,Tryz.ntmps91
   go_wp2
   exact bodyPost_ret (v:=.agg #[.int .i64 5,.string ⟨#[]⟩,.int .i64 0,.int .i64 0,.int .i64 0]) (by simp[results,Tryz.results91,go_sem]) rfl ⟨by rw[HN.out];rfl,(Below.refl _ _).alloc (Nat.le_refl _) _⟩
 · have HN:Hid (tkAt T i=noTk):=by
    unfold Hid
    obtain⟨k,rfl⟩:=Int.eq_ofNat_of_zero_le h0
    exact tkAt_far (by omega)
   subst hv
   clear h
   go_enter Tryz.func91,Tryz.ntmps91
   go_wp2
   exact bodyPost_ret (v:=.agg #[.int .i64 5,.string ⟨#[]⟩,.int .i64 0,.int .i64 0,.int .i64 0]) (by simp[results,Tryz.results91,go_sem]) rfl ⟨by rw[HN.out];rfl,(Below.refl _ _).alloc (Nat.le_refl _) _⟩
 · obtain⟨x,hx⟩:∃ x,T[k]?=some x:=⟨_,List.getElem?_eq_getElem hk⟩
   have HN:=Lib.hid (tkAt_some hx)
   obtain⟨g,off,cap2,hv2,hgB,hgw,x0,x1,x2,x3,x4⟩:=h.at hx
   rw[hv2]
   have hk2: (k:Int) < (T.length:Int):=by omega
   clear h hv hv2 hx
   go_enter Tryz.func91,Tryz.ntmps91
   go_wp2
   exact bodyPost_ret (v:=tokV x) (by simp[results,Tryz.results91,go_sem,tokV]) rfl ⟨by rw[HN.out],(Below.refl _ _).alloc (Nat.le_refl _) _⟩
set_option maxHeartbeats 1000000 in
theorem rcbad_any {w:World} {B:Nat} {lv:Value} {T:List Tk} (h:TkIn w B lv T) (hB:B≤w.heap.size) (i er:Int) :
 Calls Tryz.prog 141 #[lv,.int .i64 i,.int .i64 er] w fun e w'=>e=.returned (.agg #[.slice none 0 0,.int .i64 0,.int .i64 er,.int .i64 (tkAt T i).line,.int .i64 (tkAt T i).col])∧Below w.heap.size w w':=by
 obtain⟨x,hx⟩:∃ x,tkAt T i=x:=⟨_,rfl⟩
 have HX:=Lib.hid hx
 rw[hx]
 have hal:=(Below.refl w.heap.size w).alloc (Nat.le_refl _) (.cells #[.slice none 0 0,.int .i64 0,.int .i64 0,.int .i64 0,.int .i64 0] 117)
 have HT:=Lib.hid (rctok_any (h.below (hal.mono hB)) i)
 have HB0:=Lib.hid hal
 have hq: (w.alloc (.cells #[.slice none 0 0,.int .i64 0,.int .i64 0,.int .i64 0,.int .i64 0] 117)).heap[w.heap.size]?=some (.cells #[.slice none 0 0,.int .i64 0,.int .i64 0,.int .i64 0,.int .i64 0] 117 (0,0)):=heap_alloc_new w _
 have HQ:=Lib.hid hq
 have hfd:∀ w:World,(Instr.field 48 (.agg #[.int .i64 x.kind,.string x.text,.int .i64 x.num,.int .i64 x.line,.int .i64 x.col]) 3).run Tryz.prog w=.ok (.agg #[.int .i64 x.line,.int .i64 x.col]) w:=fun _=>by kernel_rfl
 clear h hal hq hx
 go_enter Tryz.func141,Tryz.ntmps141
 go_wp2_with fail
 refine HT.out.mono ?_
 rintro e w1 ⟨rfl,hb1⟩
 rw[HX.out]
 unfold tokV
 have hq1:w1.heap[w.heap.size]?=_:=(hb1.block _ (by simp)).trans HQ.out
 have c0:w1.cell? ⟨w.heap.size,0,none⟩ = some (.slice none 0 0):=by simp[World.cell?,hq1]
 have c1:w1.cell? ⟨w.heap.size,1,none⟩ = some (.int .i64 0):=by simp[World.cell?,hq1]
 have c2:w1.cell? ⟨w.heap.size,2,none⟩ = some (.int .i64 0):=by simp[World.cell?,hq1]
 have c3:w1.cell? ⟨w.heap.size,3,none⟩ = some (.int .i64 0):=by simp[World.cell?,hq1]
 have c4:w1.cell? ⟨w.heap.size,4,none⟩ = some (.int .i64 0):=by simp[World.cell?,hq1]
 have z0:w1.frozen? ⟨w.heap.size,0,none⟩ = false:=by simp[World.frozen?,hq1]
 have z1:w1.frozen? ⟨w.heap.size,1,none⟩ = false:=by simp[World.frozen?,hq1]
 have z2:w1.frozen? ⟨w.heap.size,2,none⟩ = false:=by simp[World.frozen?,hq1]
 have z3:w1.frozen? ⟨w.heap.size,3,none⟩ = false:=by simp[World.frozen?,hq1]
 have z4:w1.frozen? ⟨w.heap.size,4,none⟩ = false:=by simp[World.frozen?,hq1]
 have HB:=Lib.hid (HB0.out.trans (hb1.mono HB0.out.size))
 clear hb1 hq1
 go_wp2
 exact bodyPost_ret (v:=.agg #[.slice none 0 0,.int .i64 0,.int .i64 er,.int .i64 x.line,.int .i64 x.col]) (by simp[results,Tryz.results141,go_sem,c0,c1,c2,c3,c4]) rfl ⟨rfl,below_tok HB.out (Nat.le_refl _) _ _ _ _ _⟩
set_option maxHeartbeats 1000000 in
theorem rcis_any {w:World} {B:Nat} {lv:Value} {T:List Tk} (h:TkIn w B lv T) (i kind:Int) (s:ByteArray) :
 Calls Tryz.prog 106 #[lv,.int .i64 i,.int .i64 kind,.string s] w fun e w'=>e=.returned (.bool (isTk T i kind s))∧Below w.heap.size w w':=by
 have HT:=Lib.hid (rctok_any h i)
 obtain⟨x,hx⟩:∃ x,tkAt T i=x:=⟨_,rfl⟩
 have HX:=Lib.hid hx
 have HI:Hid (isTk T i kind s= (decide (x.kind=kind) && decide (x.text=s))):=by unfold Hid isTk;rw[hx]
 clear h hx
 by_cases hk:x.kind=kind
 · have hkb: (x.kind == kind)=true:=by rw[beq_iff_eq];exact hk
   by_cases ht:x.text=s
   · have htb: (x.text.toList == s.toList)=true:=by rw[bytes_beq];exact decide_eq_true ht
     have HF:Hid (isTk T i kind s=true):=by unfold Hid;rw[HI.out,decide_eq_true hk,decide_eq_true ht];rfl
     clear hk ht
     go_enter Tryz.func106,Tryz.ntmps106
     go_wp2_with fail
     refine HT.out.mono ?_
     rintro e w1 ⟨rfl,hb1⟩
     rw[HX.out]
     unfold tokV
     have HB1:=Lib.hid (hb1.alloc hb1.size (.cells #[.int .i64 x.kind,.string x.text,.int .i64 x.num,.int .i64 x.line,.int .i64 x.col] 48))
     clear hb1
     go_wp2
     go_ret
     exact⟨ret_bool HF.out.symm,HB1.out⟩
   · have htb: (x.text.toList == s.toList)=false:=by rw[bytes_beq];exact decide_eq_false ht
     have HF:Hid (isTk T i kind s=false):=by unfold Hid;rw[HI.out,decide_eq_false ht,Bool.and_false]
     clear hk ht
     go_enter Tryz.func106,Tryz.ntmps106
     go_wp2_with fail
     refine HT.out.mono ?_
     rintro e w1 ⟨rfl,hb1⟩
     rw[HX.out]
     unfold tokV
     have HB1:=Lib.hid (hb1.alloc hb1.size (.cells #[.int .i64 x.kind,.string x.text,.int .i64 x.num,.int .i64 x.line,.int .i64 x.col] 48))
     clear hb1
     go_wp2
     go_ret
     exact⟨ret_bool HF.out.symm,HB1.out⟩
 · have hkb: (x.kind == kind)=false:=beq_eq_false_iff_ne.2 hk
   have HF:Hid (isTk T i kind s=false):=by unfold Hid;rw[HI.out,decide_eq_false hk,Bool.false_and]
   clear hk
   go_enter Tryz.func106,Tryz.ntmps106
   go_wp2_with fail
   refine HT.out.mono ?_
   rintro e w1 ⟨rfl,hb1⟩
   rw[HX.out]
   unfold tokV
   have HB1:=Lib.hid (hb1.alloc hb1.size (.cells #[.int .i64 x.kind,.string x.text,.int .i64 x.num,.int .i64 x.line,.int .i64 x.col] 48))
   clear hb1
   go_wp2
   go_ret
   exact⟨ret_bool HF.out.symm,HB1.out⟩
def wordV (x:Tk):Value:=if isWord x then .agg #[.string (wordName x),.int .i64 (wordNum x)] else .agg #[.string ⟨#[]⟩,.int .i64 0]
theorem wordV_yes {x:Tk} (h:isWord x=true):wordV x=.agg #[.string (wordName x),.int .i64 (wordNum x)]:=if_pos h
theorem wordV_no {x:Tk} (h:isWord x=false):wordV x=.agg #[.string ⟨#[]⟩,.int .i64 0]:=if_neg (by rw[h];simp)
set_option maxHeartbeats 1000000 in
theorem rcword_any (x:Tk) (w:World) :
 Calls Tryz.prog 153 #[tokV x] w fun e w'=>e=.returned (.tuple #[wordV x,.bool (isWord x)])∧Below w.heap.size w w':=by
 have hb:Below w.heap.size w ((w.alloc (.cells #[.int .i64 x.kind,.string x.text,.int .i64 x.num,.int .i64 x.line,.int .i64 x.col] 48)).alloc (.cells #[.string ⟨#[]⟩,.int .i64 0] 85)):=((Below.refl _ w).alloc (Nat.le_refl _) _).alloc (by simp) _
 have HB:=Lib.hid (show ∀ n m,Below w.heap.size w ((w.alloc (.cells #[.int .i64 x.kind,.string x.text,.int .i64 x.num,.int .i64 x.line,.int .i64 x.col] 48)).alloc (.cells #[.string n,.int .i64 m] 85)) from fun n m=>((Below.refl _ w).alloc (Nat.le_refl _) _).alloc (by simp) _)
 clear hb
 unfold tokV
 by_cases h1:x.kind=1
 · have hk1: (x.kind == 1)=true:=by rw[beq_iff_eq];exact h1
   have HW:Hid (isWord x=true∧wordV x=.agg #[.string x.text,.int .i64 0]):=by
    have hw:isWord x=true:=by unfold isWord;rw[decide_eq_true h1];rfl
    refine⟨hw,?_⟩
    rw[wordV_yes hw];unfold wordName wordNum;rw[if_pos h1,if_pos h1]
   clear h1
   go_enter Tryz.func153,Tryz.ntmps153
   go_wp2
   exact bodyPost_ret (v:=.tuple #[.agg #[.string x.text,.int .i64 0],.bool true]) (by simp[results,Tryz.results153,go_sem]) rfl ⟨by rw[HW.out.1,HW.out.2],HB.out _ _⟩
 · have hk1: (x.kind == 1)=false:=beq_eq_false_iff_ne.2 h1
   by_cases h3:x.kind=3
   · have hk3: (x.kind == 3)=true:=by rw[beq_iff_eq];exact h3
     have HW:Hid (isWord x=true∧wordV x=.agg #[.string ⟨#[]⟩,.int .i64 x.num]):=by
      have hw:isWord x=true:=by unfold isWord;rw[decide_eq_true h3,Bool.or_true]
      refine⟨hw,?_⟩
      rw[wordV_yes hw];unfold wordName wordNum;rw[if_neg h1,if_neg h1]
     clear h1 h3
     go_enter Tryz.func153,Tryz.ntmps153
     go_wp2
     exact bodyPost_ret (v:=.tuple #[.agg #[.string ⟨#[]⟩,.int .i64 x.num],.bool true]) (by simp[results,Tryz.results153,go_sem]) rfl ⟨by rw[HW.out.1,HW.out.2],HB.out _ _⟩
   · have hk3: (x.kind == 3)=false:=beq_eq_false_iff_ne.2 h3
     have HW:Hid (isWord x=false∧wordV x=.agg #[.string ⟨#[]⟩,.int .i64 0]):=by
      have hw:isWord x=false:=by unfold isWord;rw[decide_eq_false h1,decide_eq_false h3];rfl
      exact⟨hw,wordV_no hw⟩
     clear h1 h3
     go_enter Tryz.func153,Tryz.ntmps153
     go_wp2
     exact bodyPost_ret (v:=.tuple #[.agg #[.string ⟨#[]⟩,.int .i64 0],.bool false]) (by simp[results,Tryz.results153,go_sem]) rfl ⟨by rw[HW.out.1,HW.out.2],HB.out _ _⟩
def strs (L:List ByteArray):List Value:=L.map Value.string
def idxN (s:ByteArray):List ByteArray→Nat→Option Nat
 | [],_=>none
 | x :: r,k=>if x=s then some k else idxN s r (k+1)
def idxP (L:List ByteArray) (s:ByteArray):Int:=match idxN s L 0 with|some k=>k|none=>-1
theorem idxN_drop (s:ByteArray) (L:List ByteArray) (k:Nat) (x:ByteArray) (h:L[k]?=some x):idxN s (L.drop k) k=if x=s then some k else idxN s (L.drop (k+1)) (k+1):=by
 obtain⟨hk,rfl⟩:=List.getElem?_eq_some_iff.1 h
 rw[List.drop_eq_getElem_cons hk,idxN]
set_option maxHeartbeats 1000000 in
theorem rcindex_any (v:Value) (L:List ByteArray) (s:ByteArray) (w:World) (hv:Reads w v (strs L)) (hl:L.length≤1000) :
 Calls Tryz.prog 143 #[v,.string s] w fun e w'=>e=.returned (.int .i64 (idxP L s))∧w=w':=by
 obtain⟨ad,cap,rfl,-⟩:=hv.len
 have hls: (strs L).length=L.length:=by simp[strs]
 rw[hls] at hv ⊢
 obtain⟨n,hn⟩:∃ n,L.length=n:=⟨_,rfl⟩
 rw[hn] at hv hl ⊢
 have HN:=Lib.hid hn
 have HV:=Lib.hid hv
 clear hn hv hls
 go_enter Tryz.func143,Tryz.ntmps143
 go_wp2
 go_loop [5] (fun i=>∃ k:Nat,i=.int .i64 k∧k≤n∧Hid (idxN s L 0=idxN s (L.drop k) k)) (fun i=>n - (intOf i).toNat)
 case atStart=>exact⟨0,rfl,Nat.zero_le _,rfl⟩
 case round=>
  obtain⟨k,rfl,hk,HI⟩:=hrel
  by_cases hlt:k < n
  · have p1: (k:Int) < (n:Int):=by omega
    obtain⟨x,hx⟩:∃ x,L[k]?=some x:=⟨_,List.getElem?_eq_getElem (by rw[HN.out];exact hlt)⟩
    obtain⟨b,o,rfl,hc⟩:=HV.out.at (by omega)
    have c1:w.cell? ⟨b,o+k,none⟩ = some (.string x):=hc k _ (by simp[strs,hx])
    have HD:=Lib.hid (idxN_drop s L k x hx)
    clear hx hc
    by_cases he:x=s
    · have hb: (x.toList == s.toList)=true:=by rw[bytes_beq];exact decide_eq_true he
      have HF:Hid (idxP L s=k):=by unfold Hid idxP;rw[HI.out,HD.out,if_pos he]
      clear he
      go_wp2
      go_ret
      exact⟨ret_int HF.out.symm,rfl⟩
    · have hb: (x.toList == s.toList)=false:=by rw[bytes_beq];exact decide_eq_false he
      have HF:Hid (idxN s L 0=idxN s (L.drop (k+1)) (k+1)):=by unfold Hid;rw[HI.out,HD.out,if_neg he]
      clear he
      go_wp2
      go_round
      case rel=>exact⟨k+1,by go_num,by omega,HF⟩
      case measure=>simp[intOf];omega
  · obtain rfl:k=n:=by omega
    have HF:Hid (idxP L s= -1):=by unfold Hid idxP;rw[HI.out,←HN.out,List.drop_length];rfl
    go_wp2
    go_ret
    exact⟨ret_int HF.out.symm,rfl⟩
end Go.Proofs.YthlofmnmacpogaaGreatDoor
