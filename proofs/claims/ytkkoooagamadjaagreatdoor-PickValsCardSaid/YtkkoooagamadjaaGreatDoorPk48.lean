import Derived.Test.YtkkoooagamadjaaGreatDoorPk47
namespace Go.Proofs.YtkkoooagamadjaaGreatDoor
open Go.RowKit Go.Shelf
theorem rdk_lit (w:World) (k:Nat) (xs:Array Value) (n c:Nat) (e:TypeId) (h:xs.size=n * k):RdK (w.alloc (.cells xs e)) k (.slice (some ⟨w.heap.size,0,none⟩) n c) n xs.toList:=by
 refine⟨_,_,rfl,by simpa using h,.inr ⟨w.heap.size,0,rfl,by simp,fun t x hx=>?_⟩⟩
 rw[World.cell?_alloc_at _ _ _ _ (by simp)]
 simpa using hx
theorem num_ex1:numZ ([(1,-1),(2,-1)],[2]) 1 [5,0] (sortS []) 3= (8,0):=by decide +kernel
theorem num_ex2:numZ ([],[]) 0 [] (sortS []) 1= (0,12):=by decide +kernel
set_option maxRecDepth 100000 in
set_option maxHeartbeats 2000000 in
theorem awake36 (w:World):Calls Tryz.prog 11 #[] w fun e w'=>e=.returned (.bool true)∧Below w.heap.size w w':=by
 obtain⟨W1,hW1⟩:∃ W1,w.alloc (.cells #[.int .i64 1,.int .i64 (-1),.int .i64 2,.int .i64 (-1)] 47)=W1:=⟨_,rfl⟩
 obtain⟨W2,hW2⟩:∃ W2,W1.alloc (.cells #[.int .i64 2] 3)=W2:=⟨_,rfl⟩
 obtain⟨W3,hW3⟩:∃ W3,W2.alloc (.cells #[.int .i64 5,.int .i64 0] 2)=W3:=⟨_,rfl⟩
 have hs1:W1.heap.size=w.heap.size+1:=by rw[←hW1];simp
 have hs2:W2.heap.size=w.heap.size+2:=by rw[←hW2];simp[hs1]
 have hb12:Below W1.heap.size W1 W2:=by rw[←hW2];exact(Below.refl _ _).alloc (Nat.le_refl _) _
 have hb23:Below W2.heap.size W2 W3:=by rw[←hW3];exact(Below.refl _ _).alloc (Nat.le_refl _) _
 have hb3:Below w.heap.size w W3:=by
  have h1:Below w.heap.size w W1:=by rw[←hW1];exact(Below.refl _ _).alloc (Nat.le_refl _) _
  exact(h1.trans (hb12.mono (by omega))).trans (hb23.mono (by omega))
 have r1:RdK W1 2 (.slice (some ⟨w.heap.size,0,none⟩) 2 2) 2 (cellsP [(1,-1),(2,-1)]):=by rw[←hW1];exact rdk_lit w 2 #[.int .i64 1,.int .i64 (-1),.int .i64 2,.int .i64 (-1)] 2 2 _ rfl
 have r2:RdK W2 1 (.slice (some ⟨W1.heap.size,0,none⟩) 1 1) 1 (ints [2]):=by rw[←hW2];exact rdk_lit W1 1 #[.int .i64 2] 1 1 _ rfl
 have r3:RdK W3 1 (.slice (some ⟨W2.heap.size,0,none⟩) 2 2) 2 (ints [5,0]):=by rw[←hW3];exact rdk_lit W2 1 #[.int .i64 5,.int .i64 0] 2 2 _ rfl
 have hnil:∀ W:World,Reads W (.slice none 0 0) (ints []):=fun W=>.inl ⟨none,0,rfl,rfl⟩
 have h64:∀ x ∈ ([5,0]:List Int) ++ [],In64 x:=by
  intro x hx
  simp at hx
  rcases hx with rfl|rfl <;> exact⟨by decide,by decide⟩
 have HN:=Lib.hid (pnumber_any (w:=W3) (z:=([(1,-1),(2,-1)],[2])) (a:=1) (r:=3) (vals:=[5,0]) (consts:=[]) ⟨(r1.below hb12).below hb23,r2.below hb23⟩ r3 (hnil _) (by decide) (by decide) (by decide) h64 (fun g hg=>by simp at hg;subst hg;decide))
 rw[num_ex1] at HN
 have HM:=Lib.hid (fun W=>pnumber_any (w:=W) (z:=([],[])) (a:=0) (r:=1) (vals:=[]) (consts:=[]) ⟨RdK.zero W 2 none 0,RdK.zero W 1 none 0⟩ (RdK.zero W 1 none 0) (hnil _) (by decide) (by decide) (by decide) (fun x hx=>by simp at hx) (fun g hg=>by simp at hg))
 rw[num_ex2] at HM
 unfold besV at HN HM
 dsimp only at HN HM
 have HB:=Lib.hid hb3
 clear hs1 hs2 hb12 hb23 hb3 r1 r2 r3 hnil h64
 go_enter Tryz.func11,Tryz.ntmps11
 go_wp2_with fail
 clear hW1 hW2 hW3
 refine HN.out.mono ?_
 rintro e w4 ⟨rfl,hb4⟩
 have HB4:=Lib.hid (HB.out.trans (hb4.mono HB.out.size))
 clear hb4
 go_wp2_with fail
 refine(HM.out _).mono ?_
 rintro e w5 ⟨rfl,hb5⟩
 have HB5:=Lib.hid (HB4.out.trans (hb5.mono HB4.out.size))
 clear hb5
 go_wp2_with fail
 go_ret
 exact⟨rfl,HB5.out⟩
set_option maxRecDepth 100000 in
set_option maxHeartbeats 1000000 in
theorem same64_eq {w:World} {v1 v2:Value} {l:List Int} (h1:RdK w 1 v1 l.length (ints l)) (h2:RdK w 1 v2 l.length (ints l)) (hl:l.length≤65536) :
 Calls Tryz.prog 15 #[v1,v2] w fun e w'=>e=.returned (.bool true)∧Below w.heap.size w w':=by
 obtain⟨a1,k1,e1⟩:=h1.len
 obtain⟨a2,k2,e2⟩:=h2.len
 obtain⟨n,hn⟩:∃ n,l.length=n:=⟨_,rfl⟩
 have HN:=Lib.hid hn
 rw[hn] at e1 e2 hl
 subst e1;subst e2
 have H1:=Lib.hid h1;have H2:=Lib.hid h2
 clear h1 h2 hn
 go_enter Tryz.func15,Tryz.ntmps15
 go_wp2
 go_loopw [5] (fun i wr=>∃ k:Nat,i=.int .i64 k∧k≤n∧Hid (Below w.heap.size w wr)) (fun i _=>n - (intOf i).toNat)
 case atStart=>exact⟨0,rfl,Nat.zero_le _,Below.refl _ _⟩
 case round=>
  obtain⟨k,rfl,hk,hb⟩:=hrel
  by_cases hlt:k < n
  · have p1: (k:Int) < (n:Int):=by omega
    obtain⟨x,hx⟩:∃ x,l[k]?=some x:=⟨_,List.getElem?_eq_getElem (by rw[HN.out];exact hlt)⟩
    have cx: (ints l)[k]?=some (.int .i64 x):=by simp[ints,hx]
    obtain⟨g,o,t1,_,hc1⟩:=(H1.out.below hb.out).at (by rw[HN.out];omega)
    obtain⟨g',o',t2,_,hc2⟩:=(H2.out.below hb.out).at (by rw[HN.out];omega)
    cases t1;cases t2
    have d1:=hc1 _ _ cx
    have d3:=hc2 _ _ cx
    clear cx hc1 hc2 hx
    go_wp2
    go_quiet (fail)
    go_wp2
    go_roundw
    case rel=>exact⟨k+1,by go_num,by omega,Lib.hid (below_drewN hb.out _)⟩
    case measure=>simp[intOf];omega
  · obtain rfl:k=n:=by omega
    go_wp2
    go_ret
    exact⟨rfl,hb.out⟩
end Go.Proofs.YtkkoooagamadjaaGreatDoor
