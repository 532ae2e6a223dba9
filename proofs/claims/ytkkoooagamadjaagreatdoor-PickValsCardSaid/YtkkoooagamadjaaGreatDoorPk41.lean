import Derived.Test.YtkkoooagamadjaaGreatDoorPk39
import Derived.Test.YtkkoooagamadjaaGreatDoorPk40
import Derived.Test.YtkkoooagamadjaaGreatDoorPk38
import Derived.Test.YtkkoooagamadjaaGreatDoorPk27
import Derived.Test.YtkkoooagamadjaaGreatDoorPk22
import Derived.Test.YtkkoooagamadjaaGreatDoorPk26
import Derived.Test.YtkkoooagamadjaaGreatDoorPk31
import Derived.Test.YtkkoooagamadjaaGreatDoorPk24
namespace Go.Proofs.YtkkoooagamadjaaGreatDoor
open Go.RowKit Go.Shelf
theorem wrapI (i n:Nat) (h:i < n) (hn:n≤1000):wrap64 ((i:Int)+1)= (i:Int)+1∧IntKind.i64.wrap ((i:Int)+1)= (i:Int)+1∧((i:Int)+1).toNat=i+1∧(i:Int)+1≤(n:Int)∧(0:Int)≤(i:Int)+1:=by
 refine⟨by unfold wrap64;omega,IntWalk.i64_in _ ⟨by omega,by omega⟩,by omega,by omega,by omega⟩
theorem wrapR (r:Int) (i:Nat) (h0:-1000≤r) (h1:r≤1000) (hi:i≤1000):IntKind.i64.wrap (r - (i:Int))=r - (i:Int)∧wrap64 (r - (i:Int))=r - (i:Int)∧IntKind.i64.wrap (r - (i:Int) - 1)=r - (i:Int) - 1∧wrap64 (r - (i:Int) - 1)=r - (i:Int) - 1:=by
 refine⟨IntWalk.i64_in _ ⟨by omega,by omega⟩,by unfold wrap64;omega,IntWalk.i64_in _ ⟨by omega,by omega⟩,by unfold wrap64;omega⟩
theorem rdk_shape {w:World} {k n:Nat} {v:Value} {xs:List Value} (h:RdK w k v n xs) (hn:0 < n):∃ b o c,v=.slice (some ⟨b,o,none⟩) n c:=by
 obtain⟨ad,cap,hv,_,h⟩:=h
 rcases h with h| ⟨b,off,ha,_,_⟩
 · omega
 · exact⟨b,off,cap,by rw[hv,ha]⟩
theorem rest_rd {w:World} {b o n c:Nat} {l:List Int} (h:RdK w 1 (.slice (some ⟨b,o,none⟩) n c) l.length (ints l)) (i:Nat) (hi:i < l.length) :
 RdK w 1 (.slice (some ⟨b,o+ (i+1),none⟩) (n - (i+1)) (c - (i+1))) (l.drop (i+1)).length (ints (l.drop (i+1))):=by
 obtain⟨ad,cap,e⟩:=h.len
 simp only[Value.slice.injEq] at e
 obtain⟨-,rfl,-⟩:=e
 have h1:=RdK.drop (i:=i+1) h (by omega) (c - (i+1))
 rw[Nat.mul_one] at h1
 rw[List.length_drop,show ints (l.drop (i+1))= (ints l).drop (i+1) by simp[ints]]
 exact h1
theorem rest_rd0 {w:World} {b o:Nat} {l:List Int} (i:Nat) (hi:l.length≤i+1):RdK w 1 (.slice (some ⟨b,o,none⟩) 0 0) (l.drop (i+1)).length (ints (l.drop (i+1))):=by
 rw[List.drop_eq_nil_of_le hi]
 exact RdK.zero w 1 _ 0
set_option maxRecDepth 100000 in
set_option maxHeartbeats 4000000 in
theorem valsC_any {W:World} (ht:PTab W) {pt pl pi pr:Nat} {x1 x2 t1 t2 lv:Value} {x tz:Zn} {l:List Int} (i:Nat) (r:Int) (hpt:Blk W pt #[t1,t2] 28) (hpl:Blk W pl #[lv] 26) (hpi:Blk W pi #[.int .i64 i] 3) (hpr:Blk W pr #[.int .i64 r] 3)
 (hx:ZoneIn W x1 x2 x.1 x.2) (hcx:CapV x1∧CapV x2) (hto:ZoneIn W t1 t2 tz.1 tz.2) (hsx:SmallZ x) (hst:SmallZ tz) (hlv:RdK W 1 lv l.length (ints l)) (hcl:CapV lv) (hi:i < l.length) (hl:l.length≤100) (hr0:-1000≤r) (hr1:r≤1000) (hok:WrG (r - i - 1) (l.drop (i+1)) [x]) :
 Calls Tryz.prog 37 #[.agg #[x1,x2],.pointer (some ⟨pt,0,none⟩),.pointer (some ⟨pl,0,none⟩),.pointer (some ⟨pi,0,none⟩),.pointer (some ⟨pr,0,none⟩)] W fun e w'=>e=.returned (.bool (decide (tz ∈ writeG (r - i - 1) (l.drop (i+1)) [x])))∧Below W.heap.size W w':=by
 obtain⟨W1,hW1⟩:∃ W1,W.alloc (.cells #[x1,x2] 28)=W1:=⟨_,rfl⟩
 have xb:Blk W1 W.heap.size #[x1,x2] 28:=by rw[←hW1];exact Blk.new _ _ _
 have hb1:Below W.heap.size W W1:=by rw[←hW1];exact(Below.refl _ _).alloc (Nat.le_refl _) _
 obtain⟨b,o,lc,hla⟩:=rdk_shape hlv (by omega)
 subst hla
 have hnc:l.length≤lc:=hcl _ _ _ rfl
 obtain⟨n,hn⟩:∃ n,l.length=n:=⟨_,rfl⟩
 have HLV:=Lib.hid hlv
 have HIL:=Lib.hid hi
 have HN:=Lib.hid hn
 rw[hn] at hnc hi hl hpl
 obtain⟨hi1,hi2,hi3,hi4,hi5⟩:=wrapI i n hi (by omega)
 obtain⟨hr2,hr3,hr4,hr5⟩:=wrapR r i hr0 hr1 (by omega)
 obtain⟨R,hR⟩:∃ R,r - (i:Int) - 1=R:=⟨_,rfl⟩
 rw[hR] at hr4 hr5 hok ⊢
 obtain⟨a1,k1,e1⟩:=hx.1.len
 obtain⟨a2,k2,e2⟩:=hx.2.len
 obtain⟨a3,k3,e3⟩:=hto.1.len
 obtain⟨a4,k4,e4⟩:=hto.2.len
 subst e1;subst e2;subst e3;subst e4
 have HSF:Hid (∀ w',Below W1.heap.size W1 w'→w'.cell? ⟨W.heap.size,0,none⟩ = some (.slice a1 x.1.length k1)∧w'.cell? ⟨W.heap.size,1,none⟩ = some (.slice a2 x.2.length k2)∧w'.cell? ⟨pt,0,none⟩ = some (.slice a3 tz.1.length k3)∧w'.cell? ⟨pt,1,none⟩ = some (.slice a4 tz.2.length k4)∧w'.cell? ⟨pl,0,none⟩ = some (.slice (some ⟨b,o,none⟩) n lc)∧w'.cell? ⟨pi,0,none⟩ = some (.int .i64 i)∧w'.cell? ⟨pr,0,none⟩ = some (.int .i64 r)):=by
  intro w' hw
  have hw2:=hb1.trans (hw.mono hb1.size)
  exact⟨(xb.keep hw).two.1,(xb.keep hw).two.2,(hpt.keep hw2).two.1,(hpt.keep hw2).two.2,(hpl.keep hw2).cell rfl,(hpi.keep hw2).cell rfl,(hpr.keep hw2).cell rfl⟩
 obtain⟨s0,s1,s2,s3,s4,s5,s6⟩:=HSF.out W1 (Below.refl _ _)
 have HCM:Hid (∀ (W':World) (u:Value),Below W1.heap.size W1 W'→RdK W' 1 u (l.drop (i+1)).length (ints (l.drop (i+1)))→Calls Tryz.prog 34 #[.agg #[.slice a1 x.1.length k1,.slice a2 x.2.length k2],.agg #[.slice a3 tz.1.length k3,.slice a4 tz.2.length k4],u,.int .i64 R] W' fun e w'=>e=.returned (.bool (decide (tz ∈ writeG R (l.drop (i+1)) [x])))∧Below W'.heap.size W' w'):=by
  intro W' u hW' hu
  have hw2:=hb1.trans (hW'.mono hb1.size)
  exact comes_any (ht.keep hw2) R (hx.below hw2) hcx (hto.below hw2) hsx hst hu (by rw[List.length_drop,hn];omega) hok
 obtain⟨q,hq⟩:∃ q,decide (tz ∈ writeG R (l.drop (i+1)) [x])=q:=⟨_,rfl⟩
 rw[hq] at HCM ⊢
 have HB1:=Lib.hid hb1
 obtain⟨m1,hm1⟩:∃ n,x.1.length=n:=⟨_,rfl⟩
 obtain⟨m2,hm2⟩:∃ n,x.2.length=n:=⟨_,rfl⟩
 obtain⟨m3,hm3⟩:∃ n,tz.1.length=n:=⟨_,rfl⟩
 obtain⟨m4,hm4⟩:∃ n,tz.2.length=n:=⟨_,rfl⟩
 rw[hm1,hm2,hm3,hm4] at HSF HCM
 rw[hm1,hm2] at hW1 ⊢
 rw[hm1] at s0;rw[hm2] at s1;rw[hm3] at s2;rw[hm4] at s3
 have hbz:Below W1.heap.size W1 W1.drew:=(Below.refl _ _).drew
 have hlp:=hpt.lt;have hll:=hpl.lt;have hli:=hpi.lt;have hlr:=hpr.lt
 clear hpt hpl hpi hpr hx hcx hto hsx hst hlv hcl hok xb hb1 hm1 hm2 hm3 hm4 hq hn ht
 by_cases hci:lc=i+1
 · subst hci
   have hni:n=i+1:=by omega
   have HZ:=Lib.hid (show l.length≤i+1 by rw[HN.out];omega)
   subst hni
   go_enter Tryz.func37,Tryz.ntmps37
   go_wp2
   go_region_held3 (fun w'=>w'.cell? ⟨W.heap.size,0,none⟩ = some (.slice a1 m1 k1)∧w'.cell? ⟨W.heap.size,1,none⟩ = some (.slice a2 m2 k2)∧w'.cell? ⟨pt,0,none⟩ = some (.slice a3 m3 k3)∧w'.cell? ⟨pt,1,none⟩ = some (.slice a4 m4 k4)∧w'.cell? ⟨pl,0,none⟩ = some (.slice (some ⟨b,o,none⟩) (i+1) (i+1))∧w'.cell? ⟨pi,0,none⟩ = some (.int .i64 i)∧w'.cell? ⟨pr,0,none⟩ = some (.int .i64 r))
    (first|exact HSF.out _ (by assumption)|go_keep)
    (first
      | (go_simp;go_at_call 34;(with_reducible refine(HCM.out _ _ (by assumption) (rest_rd0 i HZ.out)).mono ?_)
         rintro e w5 ⟨rfl,hb5⟩
         have hbz:=hbz.trans (hb5.mono hbz.size)
         clear hb5))
   all_goals
    go_wp2_with fail
    go_ret
    exact⟨rfl,HB1.out.trans (hbz.mono HB1.out.size)⟩
 · have hci':¬lc - (i+1)=0:=by omega
   go_enter Tryz.func37,Tryz.ntmps37
   go_wp2
   go_region_held3 (fun w'=>w'.cell? ⟨W.heap.size,0,none⟩ = some (.slice a1 m1 k1)∧w'.cell? ⟨W.heap.size,1,none⟩ = some (.slice a2 m2 k2)∧w'.cell? ⟨pt,0,none⟩ = some (.slice a3 m3 k3)∧w'.cell? ⟨pt,1,none⟩ = some (.slice a4 m4 k4)∧w'.cell? ⟨pl,0,none⟩ = some (.slice (some ⟨b,o,none⟩) n lc)∧w'.cell? ⟨pi,0,none⟩ = some (.int .i64 i)∧w'.cell? ⟨pr,0,none⟩ = some (.int .i64 r))
    (first|exact HSF.out _ (by assumption)|go_keep)
    (first
      | (go_simp;go_at_call 34;(with_reducible refine(HCM.out _ _ (by assumption) (rest_rd (by rw[←HN.out];exact(HLV.out.below (HB1.out.trans (hbz.mono HB1.out.size)))) i HIL.out)).mono ?_)
         rintro e w5 ⟨rfl,hb5⟩
         have hbz:=hbz.trans (hb5.mono hbz.size)
         clear hb5))
   all_goals
    go_wp2_with fail
    go_ret
    exact⟨rfl,HB1.out.trans (hbz.mono HB1.out.size)⟩
end Go.Proofs.YtkkoooagamadjaaGreatDoor
namespace Go.Proofs.YtkkoooagamadjaaGreatDoor
open Go.RowKit
structure VS (w:World) (B B2:Nat) (bx:List (Nat × Array Value × TypeId)) (z1 z2 nv ov:Value) (z:Zn) (now out:List Int) (W:World):Prop where
 box:Blk W w.heap.size #[z1,z2] 28
 zr:ZoneCi w z1 z2 z.1 z.2∨ZoneAt W B2 z1 z2 z.1 z.2
 nw:W.ownsRow B 2 1 nv now.length (ints now)
 ou:W.ownsRow B2 2 1 ov out.length (ints out)
 nB:∀ k,nv.ownBlock=some k→k < B2
 bxs:∀ x ∈ bx,w.heap.size < x.1∧x.1 < B∧Blk W x.1 x.2.1 x.2.2
 low:Below w.heap.size w W
 hB:w.heap.size < B
 hBB:B≤B2
 hW:B2≤W.heap.size
section
variable {w W W':World} {B B2:Nat} {bx:List (Nat × Array Value × TypeId)} {z1 z2 nv ov:Value} {z:Zn} {now out:List Int}
theorem VS.zin (h:VS w B B2 bx z1 z2 nv ov z now out W):ZoneCi W z1 z2 z.1 z.2:=by
 rcases h.zr with h1|h1
 · exact h1.below h.low
 · exact .of_at h1
theorem ownsW_mono {base base':Nat} {e:TypeId} {sz n:Nat} {v:Value} {xs:List Value} (h:W.ownsRow base e sz v n xs) (hb:base'≤base):W.ownsRow base' e sz v n xs:=owns_mono h hb
theorem VS.below (h:VS w B B2 bx z1 z2 nv ov z now out W) (hb:Below W.heap.size W W'):VS w B B2 bx z1 z2 nv ov z now out W':=by
 refine⟨h.box.keep hb,?_,owns_below h.nw hb,owns_below h.ou hb,h.nB,fun x hx=>⟨(h.bxs x hx).1,(h.bxs x hx).2.1,(h.bxs x hx).2.2.keep hb⟩,h.low.trans (hb.mono h.low.size),h.hB,h.hBB,Nat.le_trans h.hW hb.size⟩
 rcases h.zr with h1|h1
 · exact .inl h1
 · exact .inr (h1.below hb)
theorem VS.set {g n cap:Nat} (h:VS w B B2 bx z1 z2 (.slice (some ⟨g,0,none⟩) n cap) ov z now out W) (a:Nat) (x:Int):VS w B B2 bx z1 z2 (.slice (some ⟨g,0,none⟩) n cap) ov z (now.set a x) out (W.setCell ⟨g,a,none⟩ (.int .i64 x)):=by
 have hv:=h.nw
 obtain⟨ad,c,e⟩:=owns_len hv
 simp only[Value.slice.injEq] at e
 obtain⟨-,rfl,-⟩:=e
 obtain⟨s1,s2⟩:=hv.stored a (.int .i64 x)
 have hgb:B≤g:=(hv.lt g rfl).1
 have hgB:g < B2:=h.nB g rfl
 have hB:=h.hB
 refine⟨h.box.other (by omega) _,?_,?_,?_,h.nB,fun y hy=>⟨(h.bxs y hy).1,(h.bxs y hy).2.1,(h.bxs y hy).2.2.other (by have:=(h.bxs y hy).2.1;omega) _⟩,h.low.setCell (p:=⟨g,a,none⟩) (by show w.heap.size≤g;omega) _,h.hB,h.hBB,by simpa [World.setCell] using h.hW⟩
 · rcases h.zr with h1|h1
   · exact .inl h1
   · exact .inr ⟨owns_beside hv h1.1 (by decide) s2,owns_beside hv h1.2 (by decide) s2⟩
 · have e:ints (now.set a x)= (ints now).set a (.int .i64 x):=by simp[ints,List.map_set]
   rw[List.length_set,e]
   exact s1
 · refine h.ou.kept s2 (.inr fun e=>?_)
   have:=(h.ou.lt g e).1
   omega
theorem VS.turn {c1 c2:Value} {y:Zn} (h:VS w B B2 bx z1 z2 nv ov z now out W) (hy:ZoneAt W B2 c1 c2 y.1 y.2):VS w B B2 bx c1 c2 nv ov y now out ((W.setCell ⟨w.heap.size,0,none⟩ c1).setCell ⟨w.heap.size,1,none⟩ c2):=by
 have hB:=h.hB;have hBB:=h.hBB
 have key:∀ {base:Nat} {e:TypeId} {sz n:Nat} {v:Value} {xs:List Value},W.ownsRow base e sz v n xs→w.heap.size < base→((W.setCell ⟨w.heap.size,0,none⟩ c1).setCell ⟨w.heap.size,1,none⟩ c2).ownsRow base e sz v n xs:=by
  intro base e sz n v xs hr hb
  have hne:v.ownBlock≠some w.heap.size:=fun e=>by have:=(hr.lt _ e).1;omega
  exact ownsRow_setCell_other (a:=⟨w.heap.size,1,none⟩) (ownsRow_setCell_other (a:=⟨w.heap.size,0,none⟩) hr hne c1) hne c2
 exact⟨h.box.put2 c1 c2,.inr ⟨key hy.1 (by omega),key hy.2 (by omega)⟩,key h.nw hB,key h.ou (by omega),h.nB,
  fun x hx=>⟨(h.bxs x hx).1,(h.bxs x hx).2.1,(h.bxs x hx).2.2.over2 (by have:=(h.bxs x hx).1;omega) c1 c2⟩,
  (h.low.setCell (p:=⟨w.heap.size,0,none⟩) (Nat.le_refl _) _).setCell (p:=⟨w.heap.size,1,none⟩) (Nat.le_refl _) _,hB,hBB,by simpa [World.setCell] using h.hW⟩
theorem VS.app (h:VS w B B2 bx z1 z2 nv ov z now out W) (x:Int) (hl:out.length≤100000) (ty:TypeId) :
 ∃ ad cap w',(Builtin.append_ #[22,22] ty #[ov,.slice (some ⟨W.heap.size,0,none⟩) 1 1]).run Tryz.prog (W.alloc (.cells #[.int .i64 x] 2))=.ok (.slice ad (out.length+1) cap) w'∧
  VS w B B2 bx z1 z2 nv (.slice ad (out.length+1) cap) z now (out ++ [x]) w'∧w'.grownBy w' none∧(W.alloc (.cells #[.int .i64 x] 2)).grownBy w' ov.ownBlock:=by
 have hba:Below W.heap.size W (W.alloc (.cells #[.int .i64 x] 2)):=(Below.refl _ W).alloc (Nat.le_refl _) _
 have ha:=h.below hba
 have hrd:RdK (W.alloc (.cells #[.int .i64 x] 2)) 1 (.slice (some ⟨W.heap.size,0,none⟩) 1 1) 1 [.int .i64 x]:=by
  refine⟨_,_,rfl,rfl,.inr ⟨W.heap.size,0,rfl,by simp,fun t y hy=>?_⟩⟩
  rw[World.cell?_alloc_at _ _ _ _ (by simp)]
  simpa using hy
 obtain⟨v',w',hrun,ho,hg⟩:=appK_run (P:=Tryz.prog) _ 22 ty 2 (.int .i64 0) 1 8 B2 Tryz.underlying22 info_int64 rfl (by decide) (by decide) ov out.length (ints out) ha.ou _ 1 [.int .i64 x] hrd (by simp[Value.oneCell']) (by omega) ha.hW
 obtain⟨ad,cap,hv⟩:=owns_len ho
 subst hv
 have hlt:=ha.ou.lt
 have hB:=h.hB;have hBB:=h.hBB
 have key:∀ b,b < B2→ov.ownBlock≠some b:=fun b hb e=>by have:=(hlt b e).1;omega
 refine⟨ad,cap,w',hrun,⟨ha.box.grown hg (key _ (by omega)),?_,ha.nw.kept hg ?_,?_,h.nB,fun y hy=>⟨(h.bxs y hy).1,(h.bxs y hy).2.1,(ha.bxs y hy).2.2.grown hg (key _ (by have:=(h.bxs y hy).2.1;omega))⟩,ha.low.grown hg ha.low.size (fun k hk=>by have:=(hlt k hk).1;omega),h.hB,h.hBB,Nat.le_trans ha.hW hg.size⟩,⟨rfl,rfl,rfl,Nat.le_refl _,fun _ _ _=>rfl⟩,hg⟩
 · rcases ha.zr with h1|h1
   · exact .inl h1
   · exact .inr ⟨owns_beside ha.ou h1.1 (by decide) hg,owns_beside ha.ou h1.2 (by decide) hg⟩
 · cases e:nv.ownBlock with
   | none=>exact .inl rfl
   | some k=>exact .inr fun e'=>key k (h.nB k e) e'.symm
 · rw[List.length_append]
   simpa [ints] using ho
end
end Go.Proofs.YtkkoooagamadjaaGreatDoor
namespace Go.Proofs.YtkkoooagamadjaaGreatDoor
open Go.RowKit Go.Shelf
theorem pick_none (tz:Zn) (cs:List Int) (a:Int) (l:List Int) (z:Zn) (now:List Int) (r:Int) (h: (wrOne a r z).find? (fun x=>decide (tz ∈ writeG (r - 1) l [x]))=none):pickZ tz cs (a :: l) z now r= ([],12):=by
 rw[pickZ,h]
theorem pick_err (tz:Zn) (cs:List Int) (a:Int) (l:List Int) (z x:Zn) (now:List Int) (r:Int) (h: (wrOne a r z).find? (fun x=>decide (tz ∈ writeG (r - 1) l [x]))=some x) (ha:a < (now.length:Int)) (he: (numZ x a now cs (r - 1)).2≠0):pickZ tz cs (a :: l) z now r= ([],(numZ x a now cs (r - 1)).2):=by
 rw[pickZ,h]
 dsimp only
 rw[if_neg (by omega),if_pos he]
theorem pick_ok (tz:Zn) (cs:List Int) (a:Int) (l:List Int) (z x:Zn) (now:List Int) (r n:Int) (h: (wrOne a r z).find? (fun x=>decide (tz ∈ writeG (r - 1) l [x]))=some x) (ha:a < (now.length:Int)) (he:numZ x a now cs (r - 1)= (n,0)) :
 pickZ tz cs (a :: l) z now r= (n :: (pickZ tz cs l x (now.set a.toNat n) (r - 1)).1,(pickZ tz cs l x (now.set a.toNat n) (r - 1)).2):=by
 rw[pickZ,h]
 dsimp only
 rw[if_neg (by omega),he,if_neg (by simp)]
theorem numC_in {cl:List (Int × Int)} {i:Nat} {a:Int} {vals consts:List Int} (hI:∀ x ∈ vals ++consts,In64 x) {y:Int} (hy:numC cl i a vals (sortS consts)=some y):In64 y:=by
 unfold numC at hy
 split at hy
 · exact hI y (List.mem_append_right _ (((sortS_ok consts).2 y).1 (List.mem_of_getElem? hy)))
 · cases hh: (othL (cl.getD i (0,-1)).1 a).head? with
   | none=>rw[hh] at hy;cases hy
   | some b=>rw[hh] at hy;exact hI y (List.mem_append_left _ (List.mem_of_getElem? hy))
theorem besN_in (o:Option Int) (d:Int):In64 (besN o d).1:=by
 unfold besN
 split
 · exact⟨by decide,by decide⟩
 · split
   · rename_i h;exact h
   · exact⟨by decide,by decide⟩
theorem numZ_in {z:Zn} {a r:Int} {vals consts:List Int} (hI:∀ x ∈ vals ++consts,In64 x):In64 (numZ z a vals (sortS consts) r).1:=by
 have h0:In64 0:=⟨by decide,by decide⟩
 unfold numZ
 split
 · exact h0
 · split
   · split
     · exact h0
     · rename_i n hn;exact numC_in hI hn
   · split
     · exact h0
     · split
       · exact h0
       · split
         · exact besN_in _ _
         · exact besN_in _ _
def FstP (P:Zn→Bool) (zs:List Zn) (e:Ending):Prop:=(zs.find? P=none∧e=.returned (.int .i64 (-1)))∨∃ (k:Nat) (x:Zn),zs[k]?=some x∧zs.find? P=some x∧e=.returned (.int .i64 k)
set_option maxRecDepth 100000 in
set_option maxHeartbeats 2000000 in
theorem indexV_any {W:World} (ht:PTab W) {pt pl pi pr:Nat} {v t1 t2 lv:Value} {zs:List Zn} {tz:Zn} {l:List Int} (i:Nat) (r:Int) (hv:ZIs W v zs) (hpt:Blk W pt #[t1,t2] 28) (hpl:Blk W pl #[lv] 26) (hpi:Blk W pi #[.int .i64 i] 3) (hpr:Blk W pr #[.int .i64 r] 3)
 (hto:ZoneIn W t1 t2 tz.1 tz.2) (hst:SmallZ tz) (hlv:RdK W 1 lv l.length (ints l)) (hcl:CapV lv) (hi:i < l.length) (hl:l.length≤100) (hr0:-1000≤r) (hr1:r≤1000) (hok:∀ x ∈ zs,SmallZ x∧WrG (r - i - 1) (l.drop (i+1)) [x]) (hzl:zs.length≤100000) :
 Calls Tryz.prog 36 #[v,.func (.func 37) #[] #[.pointer (some ⟨pt,0,none⟩),.pointer (some ⟨pl,0,none⟩),.pointer (some ⟨pi,0,none⟩),.pointer (some ⟨pr,0,none⟩)]] W fun e w'=>FstP (fun x=>decide (tz ∈ writeG (r - i - 1) (l.drop (i+1)) [x])) zs e∧Below W.heap.size W w':=by
 have HC:Hid (∀ (W':World) (x1 x2:Value) (x:Zn),Below W.heap.size W W'→x ∈ zs→ZoneIn W' x1 x2 x.1 x.2→CapV x1∧CapV x2→Calls Tryz.prog 37 #[.agg #[x1,x2],.pointer (some ⟨pt,0,none⟩),.pointer (some ⟨pl,0,none⟩),.pointer (some ⟨pi,0,none⟩),.pointer (some ⟨pr,0,none⟩)] W' fun e w'=>e=.returned (.bool (decide (tz ∈ writeG (r - i - 1) (l.drop (i+1)) [x])))∧Below W'.heap.size W' w'):=
  fun W' x1 x2 x hW hx hz hc=>valsC_any (ht.keep hW) i r (hpt.keep hW) (hpl.keep hW) (hpi.keep hW) (hpr.keep hW) hz hc (hto.below hW) (hok x hx).1 hst (hlv.below hW) hcl hi hl hr0 hr1 (hok x hx).2
 obtain⟨P,hP⟩:∃ P:Zn→Bool,(fun x=>decide (tz ∈ writeG (r - i - 1) (l.drop (i+1)) [x]))=P:=⟨_,rfl⟩
 have hPx:∀ x,decide (tz ∈ writeG (r - i - 1) (l.drop (i+1)) [x])=P x:=fun x=>by rw[←hP]
 rw[hP]
 simp only[hPx] at HC
 obtain⟨ad,cap,rfl⟩:=hv.len
 obtain⟨n,hn⟩:∃ n,zs.length=n:=⟨_,rfl⟩
 have HN:=Lib.hid hn
 rw[hn] at hv hzl ⊢
 have HV:=Lib.hid hv
 clear hv hn ht hpt hpl hpi hpr hto hst hlv hcl hi hl hr0 hr1 hok hP hPx
 go_enter Tryz.func36,Tryz.ntmps36
 go_wp2_with fail
 go_loopw [5,8] (fun _ i wr=>∃ k:Nat,k≤n∧i=.int .i64 k∧Hid (Below W.heap.size W wr∧∀ y ∈ zs.take k,P y=false)) (fun _ i _=>n - (intOf i).toNat)
 case atStart=>exact⟨0,Nat.zero_le _,rfl,Below.refl _ _,fun y h=>by simp at h⟩
 case round=>
  obtain⟨k,hk,rfl,HH⟩:=hrel
  by_cases hlt:k < n
  · have hkn: (k:Int) < (n:Int):=by omega
    obtain⟨zk,hzk⟩:∃ z,zs[k]?=some z:=⟨_,List.getElem?_eq_getElem (by rw[HN.out];exact hlt)⟩
    obtain⟨g,off,u1,u2,hxa,-,-,f0,f1,hzz,hcc⟩:=(HV.out.below HH.out.1).at hzk
    subst hxa
    have HCC:=Lib.hid (HC.out wr u1 u2 zk HH.out.1 (List.mem_of_getElem? hzk) hzz hcc)
    obtain⟨b1,m1,hu1⟩:=hzz.1.len
    obtain⟨b2,m2,hu2⟩:=hzz.2.len
    subst hu1;subst hu2
    have hT:Hid (P zk=false→∀ z ∈ zs.take (k+1),P z=false):=by
     intro h0 z hz
     obtain⟨h1,h2⟩:=List.getElem?_eq_some_iff.1 hzk
     rw[List.take_succ_eq_append_getElem h1,h2,List.mem_append,List.mem_singleton] at hz
     rcases hz with hz|rfl
     · exact HH.out.2 z hz
     · exact h0
    have hA:Hid (P zk=true→zs.find? P=some zk):=by
     intro h
     obtain⟨h1,h2⟩:=List.getElem?_eq_some_iff.1 hzk
     have hs:zs=zs.take k ++zk :: zs.drop (k+1):=by
      conv=>lhs;rw[←List.take_append_drop k zs,List.drop_eq_getElem_cons h1,h2]
     rw[hs,List.find?_append,List.find?_eq_none.2 (fun y hy=>by rw[HH.out.2 y hy];simp),Option.none_or,List.find?_cons_of_pos h]
    obtain⟨q,hq⟩:∃ q,P zk=q:=⟨_,rfl⟩
    rw[hq] at HCC hT hA
    have HB:=Lib.hid HH.out.1
    have HZK:=Lib.hid hzk
    clear hzk hq HH hzz hcc
    go_wp2_with fail
    refine HCC.out.mono ?_
    rintro e w5 ⟨rfl,hb5⟩
    have HB5:=Lib.hid (HB.out.trans (hb5.mono HB.out.size))
    clear hb5
    cases q
    · go_wp2
      go_roundw
      case rel=>exact⟨k+1,by omega,by go_num,HB5.out,hT.out (by trivial)⟩
      case measure=>simp[intOf];omega
    · go_wp2
      go_ret
      exact⟨.inr ⟨k,zk,HZK.out,hA.out (by trivial),rfl⟩,HB5.out⟩
  · obtain rfl:k=n:=by omega
    have hF:=HH.out.2
    rw[show zs.take k=zs from by rw[←HN.out];exact List.take_length] at hF
    have HF:=Lib.hid (List.find?_eq_none.2 (fun y hy=>by rw[hF y hy];simp):zs.find? P=none)
    have HB:=Lib.hid HH.out.1
    clear hF HH
    go_wp2
    go_ret
    exact⟨.inl ⟨HF.out,rfl⟩,HB.out⟩
end Go.Proofs.YtkkoooagamadjaaGreatDoor
namespace Go.Proofs.YtkkoooagamadjaaGreatDoor
open Go.RowKit Go.Shelf
structure PT (w:World) (B:Nat) (vv lv sv:Value) (row:List Int) (L S:List Zn) (W:World):Prop where
 v:W.ownsRow w.heap.size 2 1 vv row.length (ints row)
 l:ZonesAt W w.heap.size lv L
 lB:∀ k,lv.ownBlock=some k→k < B
 s:ZonesAt W B sv S
 low:Below w.heap.size w W
 hB:w.heap.size≤B
 hs:B≤W.heap.size
theorem PT.below {w W W':World} {B:Nat} {vv lv sv:Value} {row:List Int} {L S:List Zn} (h:PT w B vv lv sv row L S W) (hb:Below W.heap.size W W'):PT w B vv lv sv row L S W':=
 ⟨owns_below h.v hb,h.l.below hb,h.lB,h.s.below hb,h.low.trans (hb.mono h.low.size),h.hB,Nat.le_trans h.hs hb.size⟩
theorem ZonesAt.other {W W':World} {base:Nat} {v:Value} {zs:List Zn} {row:Option Nat} (h:ZonesAt W base v zs) (hg:W.grownBy W' row) (hr:∀ k,row=some k→∀ cs t f,W.heap[k]?=some (.cells cs t f)→t≠47∧t≠3) (hv:v.ownBlock=none∨v.ownBlock≠row):ZonesAt W' base v zs:=by
 obtain⟨ps,hl,hrw,hz⟩:=h
 have key:∀ {e:TypeId} {sz n:Nat} {u:Value} {xs:List Value},W.ownsRow base e sz u n xs→(e=47∨e=3)→W'.ownsRow base e sz u n xs:=by
  intro e sz n u xs hu he
  refine hu.kept hg ?_
  rcases hu.2 with⟨rfl,_⟩ | ⟨g,cap,cur,rfl,_,hgg,_⟩
  · exact .inl rfl
  · refine .inr fun e'=>?_
    have hk:=hr g e'.symm _ _ _ hgg
    rcases he with rfl|rfl
    · exact hk.1 rfl
    · exact hk.2 rfl
 exact⟨ps,hl,hrw.kept hg hv,fun i p z h1 h2=>⟨key (hz i p z h1 h2).1 (.inl rfl),key (hz i p z h1 h2).2 (.inr rfl)⟩⟩
theorem row_block {W:World} {base n sz:Nat} {e:TypeId} {v:Value} {xs:List Value} (h:W.ownsRow base e sz v n xs):∀ k,v.ownBlock=some k→∀ cs t f,W.heap[k]?=some (.cells cs t f)→t=e:=by
 intro k hk cs t f hh
 rcases h.2 with⟨rfl,_⟩ | ⟨g,cap,cur,rfl,_,hgg,_⟩
 · simp[Value.ownBlock] at hk
 · have e2:g=k:=by simpa [Value.ownBlock] using hk
   subst e2
   rw[hgg] at hh
   cases hh;rfl
theorem rows_apart {W:World} {b1 b2 n1 n2 s1 s2:Nat} {e1 e2:TypeId} {v1 v2:Value} {x1 x2:List Value} (h1:W.ownsRow b1 e1 s1 v1 n1 x1) (h2:W.ownsRow b2 e2 s2 v2 n2 x2) (he:e1≠e2):v1.ownBlock=none∨v1.ownBlock≠v2.ownBlock:=by
 rcases h1.2 with⟨rfl,_⟩ | ⟨g,cap,cur,rfl,_,hgg,_⟩
 · exact .inl rfl
 · refine .inr fun e=>?_
   exact he (row_block h2 g e.symm _ _ _ hgg)
theorem PT.set {w W:World} {B g n cap:Nat} {lv sv:Value} {row:List Int} {L S:List Zn} (h:PT w B (.slice (some ⟨g,0,none⟩) n cap) lv sv row L S W) (a:Nat) (x:Int):PT w B (.slice (some ⟨g,0,none⟩) n cap) lv sv (row.set a x) L S (W.setCell ⟨g,a,none⟩ (.int .i64 x)):=by
 have hv:=h.v
 obtain⟨ad,c,e⟩:=owns_len hv
 simp only[Value.slice.injEq] at e
 obtain⟨-,rfl,-⟩:=e
 obtain⟨s1,s2⟩:=hv.stored a (.int .i64 x)
 have hgb:w.heap.size≤g:=(hv.lt g rfl).1
 have hty:∀ k,some g=some k→∀ cs t f,W.heap[k]?=some (.cells cs t f)→t≠47∧t≠3:=by
  intro k hk cs t f hh
  cases hk
  have:=row_block hv g rfl _ _ _ hh
  subst this
  exact⟨by decide,by decide⟩
 have ap:∀ {base:Nat} {v:Value} {zs:List Zn},ZonesAt W base v zs→v.ownBlock=none∨v.ownBlock≠some g:=by
  rintro base v zs ⟨ps,_,hr,_⟩
  exact rows_apart hr hv (by decide)
 refine⟨?_,h.l.other s2 hty (ap h.l),h.lB,h.s.other s2 hty (ap h.s),h.low.setCell hgb _,h.hB,by simpa [World.setCell] using h.hs⟩
 have e:ints (row.set a x)= (ints row).set a (.int .i64 x):=by simp[ints,List.map_set]
 rw[List.length_set,e]
 exact s1
theorem PT.app {w W:World} {B b:Nat} {vv lv sv c1 c2:Value} {row:List Int} {L S:List Zn} {z:Zn} (h:PT w B vv lv sv row L S W) (hz:ZoneAt W b c1 c2 z.1 z.2) (hb:B≤b) (hl:S.length≤100000) (ty:TypeId) :
 ∃ ad cap w',(Builtin.append_ #[30,30] ty #[sv,.slice (some ⟨W.heap.size,0,none⟩) 1 1]).run Tryz.prog (W.alloc (.cells #[c1,c2] 28))=.ok (.slice ad (S.length+1) cap) w'∧PT w B vv lv (.slice ad (S.length+1) cap) row L (S ++ [z]) w'∧
  ZoneAt w' b c1 c2 z.1 z.2∧∀ q u1 u2,Box2 W q u1 u2→sv.ownBlock≠some q→Box2 w' q u1 u2:=by
 have hba:Below W.heap.size W (W.alloc (.cells #[c1,c2] 28)):=(Below.refl _ W).alloc (Nat.le_refl _) _
 have ha:=h.below hba
 have hz2:=hz.below hba
 obtain⟨ps,hpl,hr,hzz⟩:=ha.s
 have o1:c1.oneCell'=true:=owns_one2 hz.1
 have o2:c2.oneCell'=true:=owns_one1 hz.2
 have hrd:RdK (W.alloc (.cells #[c1,c2] 28)) 2 (.slice (some ⟨W.heap.size,0,none⟩) 1 1) 1 [c1,c2]:=by
  refine⟨_,_,rfl,rfl,.inr ⟨W.heap.size,0,rfl,by simp,fun t x hx=>?_⟩⟩
  rw[World.cell?_alloc_at _ _ _ _ (by simp)]
  simpa using hx
 obtain⟨v',w',hrun,ho,hg⟩:=appK_run (P:=Tryz.prog) _ 30 ty 28 (.agg #[.slice none 0 0,.slice none 0 0]) 2 48 B Tryz.underlying30 info_zone rfl (by decide) (by decide) sv S.length (zcells ps) hr _ 1 [c1,c2] hrd (by simp[o1,o2]) (by omega) ha.hs
 obtain⟨ad,cap,hv⟩:=owns_len ho
 subst hv
 have hlt:=hr.lt
 have hty:∀ k,sv.ownBlock=some k→∀ cs t f,(W.alloc (.cells #[c1,c2] 28)).heap[k]?=some (.cells cs t f)→t≠47∧t≠3:=by
  intro k hk cs t f hh
  have:=row_block hr k hk _ _ _ hh
  subst this
  exact⟨by decide,by decide⟩
 have hlv:lv.ownBlock=none∨lv.ownBlock≠sv.ownBlock:=by
  cases e:lv.ownBlock with
  | none=>exact .inl rfl
  | some k=>
    refine .inr fun e'=>?_
    have:=h.lB k e
    have:=(hlt k e'.symm).1
    omega
 refine⟨ad,cap,w',hrun,⟨owns_beside hr ha.v (by decide) hg,ha.l.other hg hty hlv,h.lB,ZonesAt.app hpl hr hzz ⟨owns_mono hz2.1 hb,owns_mono hz2.2 hb⟩ ho hg,ha.low.grown hg ha.low.size (fun k hk=>by have:=(hlt k hk).1;have:=h.hB;omega),h.hB,Nat.le_trans ha.hs hg.size⟩,?_,?_⟩
 · exact hz2.grown hr hg
 · intro q u1 u2 hq hne
   exact(hq.alloc _).kept hg hne
end Go.Proofs.YtkkoooagamadjaaGreatDoor
