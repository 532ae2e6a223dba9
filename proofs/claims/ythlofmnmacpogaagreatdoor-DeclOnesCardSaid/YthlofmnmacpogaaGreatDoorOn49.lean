/- A part of a proof: 'warder/warderlaw07.DeclOnes' returns true for every input and leaves its arguments as they were; no condition. The row lists package-level variables of Go's library with what they hold at the start; the card ties them to the program's text. -/
import Derived.Test.YthlofmnmacpogaaGreatDoorOn48
import Derived.Deep.RegionHeld3
import Derived.Deep.DeepCutAuto
namespace Go.Proofs.YthlofmnmacpogaaGreatDoor
open Go.RowKit
set_option maxRecDepth 100000 in
set_option maxHeartbeats 40000000 in
theorem same07_yes {w:World} {u v:Value} {A B:List Sv} (ha:SvRow w u A) (hb:SvRow w v B) (hAB:A.map (·.1)=B.map (·.1)) :
 Calls Tryz.prog 10 #[u,v,.bool true] w fun e w'=>e=.returned (.bool true)∧Below w.heap.size w w':=by
 have hl:A.length=B.length:=by simpa using congrArg List.length hAB
 obtain⟨ad,cap,hu⟩:=ha.len
 obtain⟨ad2,cap2,hv⟩:=hb.len
 rw[←hl] at hv
 have hA:A.length≤9223372036854775807:=by obtain⟨_,h⟩:=ha;exact owns_max h.row
 have HA:=Lib.hid ha
 have HB:=Lib.hid hb
 have HAB:=Lib.hid hAB
 have HL:=Lib.hid hl
 subst hu
 subst hv
 clear ha hb hl hAB
 go_enter Tryz.func10,Tryz.ntmps10
 go_wp2
 go_loopw [7] (fun i wr=>∃ k:Nat,i=.int .i64 k∧k≤A.length∧Hid (Below w.heap.size w wr)) (fun i _=>A.length - (intOf i).toNat)
 case atStart=>exact⟨0,by go_num,by omega,Below.refl _ _⟩
 case round=>
  obtain⟨k,rfl,hk,HBR⟩:=hrel
  by_cases hlt:k < A.length
  · obtain⟨x,hx⟩:∃ x,A[k]?=some x:=⟨_,List.getElem?_eq_getElem hlt⟩
    obtain⟨y,hy⟩:∃ y,B[k]?=some y:=⟨_,List.getElem?_eq_getElem (by rw[←HL.out];exact hlt)⟩
    have hxy:x.1=y.1:=by
     have h1: (A.map (·.1))[k]?=some x.1:=by rw[List.getElem?_map,hx];rfl
     have h2: (B.map (·.1))[k]?=some y.1:=by rw[List.getElem?_map,hy];rfl
     rw[HAB.out,h2] at h1
     exact(Option.some.inj h1).symm
    obtain⟨y1,y2,y3⟩:=y
    have hxy':y1=x.1:=hxy.symm
    subst hxy'
    clear hxy
    obtain⟨g,c1,hg,hgl,-⟩:=(HA.out.keep HBR.out).at hx
    obtain⟨g2,c2,hg2,hgl2,-⟩:=(HB.out.keep HBR.out).at hy
    rw[←HL.out] at hg2
    simp only[Value.slice.injEq,true_and] at hg hg2
    obtain⟨rfl,rfl⟩:=hg
    obtain⟨rfl,rfl⟩:=hg2
    have HXX:Hid (∀ W,Below wr.heap.size wr W→(W.cell? ⟨g,k * 12,none⟩ = some (.int .i64 x.1.kind)∧W.cell? ⟨g,k * 12+1,none⟩ = some (.string x.1.name)∧W.cell? ⟨g,k * 12+2,none⟩ = some (.int .i64 x.1.line)∧W.cell? ⟨g,k * 12+3,none⟩ = some (.int .i64 x.1.col)∧W.cell? ⟨g,k * 12+4,none⟩ = some (.int .i64 x.1.init)∧W.cell? ⟨g,k * 12+5,none⟩ = some x.2.1∧W.cell? ⟨g,k * 12+6,none⟩ = some (.string x.1.role)∧W.cell? ⟨g,k * 12+7,none⟩ = some (.string x.1.stage)∧W.cell? ⟨g,k * 12+8,none⟩ = some (.string x.1.event)∧W.cell? ⟨g,k * 12+9,none⟩ = some (.int .i64 x.1.times)∧W.cell? ⟨g,k * 12+10,none⟩ = some x.2.2∧W.cell? ⟨g,k * 12+11,none⟩ = some (.bool x.1.final)∧W.cell? ⟨g2,k * 12,none⟩ = some (.int .i64 x.1.kind)∧W.cell? ⟨g2,k * 12+1,none⟩ = some (.string x.1.name)∧W.cell? ⟨g2,k * 12+2,none⟩ = some (.int .i64 x.1.line)∧W.cell? ⟨g2,k * 12+3,none⟩ = some (.int .i64 x.1.col)∧W.cell? ⟨g2,k * 12+4,none⟩ = some (.int .i64 x.1.init)∧W.cell? ⟨g2,k * 12+5,none⟩ = some y2∧W.cell? ⟨g2,k * 12+6,none⟩ = some (.string x.1.role)∧W.cell? ⟨g2,k * 12+7,none⟩ = some (.string x.1.stage)∧W.cell? ⟨g2,k * 12+8,none⟩ = some (.string x.1.event)∧W.cell? ⟨g2,k * 12+9,none⟩ = some (.int .i64 x.1.times)∧W.cell? ⟨g2,k * 12+10,none⟩ = some y3∧W.cell? ⟨g2,k * 12+11,none⟩ = some (.bool x.1.final))∧NmRow W x.2.1 x.1.names∧ItRow W x.2.2 x.1.ifs∧NmRow W y2 x.1.names∧ItRow W y3 x.1.ifs):=by
     intro W hW
     have hBW:=HBR.out.trans (hW.mono HBR.out.size)
     obtain⟨g',c',q,_,a0,a1,a2,a3,a4,a5,a6,a7,a8,a9,a10,a11,an,ai⟩:=(HA.out.keep hBW).at hx
     obtain⟨g2',c2',q2,_,b0,b1,b2,b3,b4,b5,b6,b7,b8,b9,b10,b11,bn,bi⟩:=(HB.out.keep hBW).at hy
     simp only[Value.slice.injEq,Option.some.injEq,Addr.mk.injEq,true_and,and_true] at q q2
     obtain⟨rfl,rfl⟩:=q
     obtain⟨rfl,_⟩:=q2
     exact⟨⟨a0,a1,a2,a3,a4,a5,a6,a7,a8,a9,a10,a11,b0,b1,b2,b3,b4,b5,b6,b7,b8,b9,b10,b11⟩,an,ai,bn,bi⟩
    have HX:Hid (∀ W,Below wr.heap.size wr W→(W.cell? ⟨g,k * 12,none⟩ = some (.int .i64 x.1.kind)∧W.cell? ⟨g,k * 12+1,none⟩ = some (.string x.1.name)∧W.cell? ⟨g,k * 12+2,none⟩ = some (.int .i64 x.1.line)∧W.cell? ⟨g,k * 12+3,none⟩ = some (.int .i64 x.1.col)∧W.cell? ⟨g,k * 12+4,none⟩ = some (.int .i64 x.1.init)∧W.cell? ⟨g,k * 12+5,none⟩ = some x.2.1∧W.cell? ⟨g,k * 12+6,none⟩ = some (.string x.1.role)∧W.cell? ⟨g,k * 12+7,none⟩ = some (.string x.1.stage)∧W.cell? ⟨g,k * 12+8,none⟩ = some (.string x.1.event)∧W.cell? ⟨g,k * 12+9,none⟩ = some (.int .i64 x.1.times)∧W.cell? ⟨g,k * 12+10,none⟩ = some x.2.2∧W.cell? ⟨g,k * 12+11,none⟩ = some (.bool x.1.final)∧W.cell? ⟨g2,k * 12,none⟩ = some (.int .i64 x.1.kind)∧W.cell? ⟨g2,k * 12+1,none⟩ = some (.string x.1.name)∧W.cell? ⟨g2,k * 12+2,none⟩ = some (.int .i64 x.1.line)∧W.cell? ⟨g2,k * 12+3,none⟩ = some (.int .i64 x.1.col)∧W.cell? ⟨g2,k * 12+4,none⟩ = some (.int .i64 x.1.init)∧W.cell? ⟨g2,k * 12+5,none⟩ = some y2∧W.cell? ⟨g2,k * 12+6,none⟩ = some (.string x.1.role)∧W.cell? ⟨g2,k * 12+7,none⟩ = some (.string x.1.stage)∧W.cell? ⟨g2,k * 12+8,none⟩ = some (.string x.1.event)∧W.cell? ⟨g2,k * 12+9,none⟩ = some (.int .i64 x.1.times)∧W.cell? ⟨g2,k * 12+10,none⟩ = some y3∧W.cell? ⟨g2,k * 12+11,none⟩ = some (.bool x.1.final))):=fun W hW=>(HXX.out W hW).1
    have HLK:Hid (∀ W,Below wr.heap.size wr W→Calls Tryz.prog 15 #[svV x,.agg #[.int .i64 x.1.kind,.string x.1.name,.int .i64 x.1.line,.int .i64 x.1.col,.int .i64 x.1.init,y2,.string x.1.role,.string x.1.stage,.string x.1.event,.int .i64 x.1.times,y3,.bool x.1.final]] W fun e w'=>e=.returned (.bool true)∧Below W.heap.size W w'):=by
     intro W hW
     obtain⟨_,an,ai,bn,bi⟩:=HXX.out W hW
     exact like_cells an bn ai bi rfl
    have HEX:Hid (∀ W,Below wr.heap.size wr W→Calls Tryz.prog 16 #[x.2.2,y3] W fun e w'=>e=.returned (.bool true)∧∃ n,w'=W.drewN n):=by
     intro W hW
     obtain⟨_,_,ai,_,bi⟩:=HXX.out W hW
     exact exact_big ai bi
    have hkz: (k:Int) < (A.length:Int):=by omega
    clear HXX hx hy
    have hbz:Below wr.heap.size wr wr:=Below.refl _ _
    go_wp2_with fail
    go_cut [58] (fun c wx=>c=.bool false∧Hid (Below wr.heap.size wr wx))
    case first=>
     obtain⟨a0,a1,a2,a3,a4,a5,a6,a7,a8,a9,a10,a11,b0,b1,b2,b3,b4,b5,b6,b7,b8,b9,b10,b11⟩:=HX.out wr hbz
     have hbz:Below wr.heap.size wr wr.drew:=(Below.refl _ _).drew
     refine wp_region_held_drew (S:=(fun w'=>w'.cell? ⟨g,k * 12,none⟩ = some (.int .i64 x.1.kind)∧w'.cell? ⟨g,k * 12+1,none⟩ = some (.string x.1.name)∧w'.cell? ⟨g,k * 12+2,none⟩ = some (.int .i64 x.1.line)∧w'.cell? ⟨g,k * 12+3,none⟩ = some (.int .i64 x.1.col)∧w'.cell? ⟨g,k * 12+4,none⟩ = some (.int .i64 x.1.init)∧w'.cell? ⟨g,k * 12+5,none⟩ = some x.2.1∧w'.cell? ⟨g,k * 12+6,none⟩ = some (.string x.1.role)∧w'.cell? ⟨g,k * 12+7,none⟩ = some (.string x.1.stage)∧w'.cell? ⟨g,k * 12+8,none⟩ = some (.string x.1.event)∧w'.cell? ⟨g,k * 12+9,none⟩ = some (.int .i64 x.1.times)∧w'.cell? ⟨g,k * 12+10,none⟩ = some x.2.2∧w'.cell? ⟨g,k * 12+11,none⟩ = some (.bool x.1.final)∧w'.cell? ⟨g2,k * 12,none⟩ = some (.int .i64 x.1.kind)∧w'.cell? ⟨g2,k * 12+1,none⟩ = some (.string x.1.name)∧w'.cell? ⟨g2,k * 12+2,none⟩ = some (.int .i64 x.1.line)∧w'.cell? ⟨g2,k * 12+3,none⟩ = some (.int .i64 x.1.col)∧w'.cell? ⟨g2,k * 12+4,none⟩ = some (.int .i64 x.1.init)∧w'.cell? ⟨g2,k * 12+5,none⟩ = some y2∧w'.cell? ⟨g2,k * 12+6,none⟩ = some (.string x.1.role)∧w'.cell? ⟨g2,k * 12+7,none⟩ = some (.string x.1.stage)∧w'.cell? ⟨g2,k * 12+8,none⟩ = some (.string x.1.event)∧w'.cell? ⟨g2,k * 12+9,none⟩ = some (.int .i64 x.1.times)∧w'.cell? ⟨g2,k * 12+10,none⟩ = some y3∧w'.cell? ⟨g2,k * 12+11,none⟩ = some (.bool x.1.final))) (by kernel_rfl) ?_ (fun hHeld=>?_)
     · exact HX.out _ hbz
     refine wpAnyH_take (i:=0) (v:=?v0) rfl (by kernel_rfl) (by kernel_rfl) (by kernel_rfl) (fun _ _ _ h=>h) (Or.inl ⟨by rfl,?y0⟩) (by assumption) ?r0
     case y0=>((intro w hSw;(try dsimp only at hSw);go_simp) <;> (try with_reducible rfl))
     (try go_simp)
     refine wpAnyH_take (i:=1) (v:=?v1) rfl (by kernel_rfl) (by kernel_rfl) (by kernel_rfl) (fun _ _ _ h=>h) (Or.inl ⟨by rfl,?y1⟩) (by assumption) ?r1
     case y1=>((intro w hSw;(try dsimp only at hSw);go_simp) <;> (try with_reducible rfl))
     (try go_simp)
     refine wpAnyH_take (i:=2) (v:=?v2) rfl (by kernel_rfl) (by kernel_rfl) (by kernel_rfl) (fun _ _ _ h=>h) (Or.inl ⟨by rfl,?y2⟩) (by assumption) ?r2
     case y2=>((intro w hSw;(try dsimp only at hSw);go_simp) <;> (try with_reducible rfl))
     (try go_simp)
     refine wpAnyH_take (i:=3) (v:=?v3) rfl (by kernel_rfl) (by kernel_rfl) (by kernel_rfl) (fun _ _ _ h=>h) (Or.inl ⟨by rfl,?y3⟩) (by assumption) ?r3
     case y3=>((intro w hSw;(try dsimp only at hSw);go_simp) <;> (try with_reducible rfl))
     (try go_simp)
     refine wpAnyH_take (i:=4) (v:=?v4) rfl (by kernel_rfl) (by kernel_rfl) (by kernel_rfl) (fun _ _ _ h=>h) (Or.inl ⟨by rfl,?y4⟩) (by assumption) ?r4
     case y4=>((intro w hSw;(try dsimp only at hSw);go_simp) <;> (try with_reducible rfl))
     (try go_simp)
     refine wpAnyH_take (i:=5) (v:=?v5) rfl (by kernel_rfl) (by kernel_rfl) (by kernel_rfl) (fun _ _ _ h=>h) (Or.inl ⟨by rfl,?y5⟩) (by assumption) ?r5
     case y5=>((intro w hSw;(try dsimp only at hSw);go_simp) <;> (try with_reducible rfl))
     (try go_simp)
     refine wpAnyH_take (i:=6) (v:=?v6) rfl (by kernel_rfl) (by kernel_rfl) (by kernel_rfl) (fun _ _ _ h=>h) (Or.inl ⟨by rfl,?y6⟩) (by assumption) ?r6
     case y6=>((intro w hSw;(try dsimp only at hSw);go_simp) <;> (try with_reducible rfl))
     (try go_simp)
     refine wpAnyH_take (i:=7) (v:=?v7) rfl (by kernel_rfl) (by kernel_rfl) (by kernel_rfl) (fun _ _ _ h=>h) (Or.inl ⟨by rfl,?y7⟩) (by assumption) ?r7
     case y7=>((intro w hSw;(try dsimp only at hSw);go_simp) <;> (try with_reducible rfl))
     (try go_simp)
     refine wpAnyH_ready (rs:=[8]) (by kernel_rfl) (by simp) ?_
     refine AllReadyH.cons rfl (fun K hK=>?_) AllReadyH.nil
     go_simp
     refine(HLK.out _ hbz).mono ?_
     rintro e w4 ⟨rfl,hbs⟩
     have hbz:=hbz.trans (hbs.mono hbz.size)
     clear hbs
     refine hK.out _ _ ?_ (fun hHeld=>?_)
     · exact HX.out _ hbz
     clear hK K
     (try go_simp)
     refine wpAnyH_take (i:=9) (v:=?v9) rfl (by kernel_rfl) (by kernel_rfl) (by kernel_rfl) (fun _ _ _ h=>h) (Or.inl ⟨by rfl,?y9⟩) (by assumption) ?r9
     case y9=>((intro w hSw;(try dsimp only at hSw);go_simp) <;> (try with_reducible rfl))
     (try go_simp)
     refine wpAnyH_take (i:=10) (v:=?v10) rfl (by kernel_rfl) (by kernel_rfl) (by kernel_rfl) (fun _ _ _ h=>h) (Or.inl ⟨by rfl,?y10⟩) (by assumption) ?r10
     case y10=>((intro w hSw;(try dsimp only at hSw);go_simp) <;> (try with_reducible rfl))
     (try go_simp)
     refine wpAnyH_take (i:=11) (v:=?v11) rfl (by kernel_rfl) (by kernel_rfl) (by kernel_rfl) (fun _ _ _ h=>h) (Or.inl ⟨by rfl,?y11⟩) (by assumption) ?r11
     case y11=>((intro w hSw;(try dsimp only at hSw);go_simp) <;> (try with_reducible rfl))
     (try go_simp)
     refine wpAnyH_take (i:=12) (v:=?v12) rfl (by kernel_rfl) (by kernel_rfl) (by kernel_rfl) (fun _ _ _ h=>h) (Or.inl ⟨by rfl,?y12⟩) (by assumption) ?r12
     case y12=>((intro w hSw;(try dsimp only at hSw);go_simp) <;> (try with_reducible rfl))
     (try go_simp)
     refine wpAnyH_take (i:=13) (v:=?v13) rfl (by kernel_rfl) (by kernel_rfl) (by kernel_rfl) (fun _ _ _ h=>h) (Or.inl ⟨by rfl,?y13⟩) (by assumption) ?r13
     case y13=>((intro w hSw;(try dsimp only at hSw);go_simp) <;> (try with_reducible rfl))
     (try go_simp)
     refine wpAnyH_take (i:=14) (v:=?v14) rfl (by kernel_rfl) (by kernel_rfl) (by kernel_rfl) (fun _ _ _ h=>h) (Or.inl ⟨by rfl,?y14⟩) (by assumption) ?r14
     case y14=>((intro w hSw;(try dsimp only at hSw);go_simp) <;> (try with_reducible rfl))
     (try go_simp)
     refine wpAnyH_take (i:=15) (v:=?v15) rfl (by kernel_rfl) (by kernel_rfl) (by kernel_rfl) (fun _ _ _ h=>h) (Or.inl ⟨by rfl,?y15⟩) (by assumption) ?r15
     case y15=>((intro w hSw;(try dsimp only at hSw);go_simp) <;> (try with_reducible rfl))
     (try go_simp)
     refine wpAnyH_take (i:=16) (v:=?v16) rfl (by kernel_rfl) (by kernel_rfl) (by kernel_rfl) (fun _ _ _ h=>h) (Or.inl ⟨by rfl,?y16⟩) (by assumption) ?r16
     case y16=>((intro w hSw;(try dsimp only at hSw);go_simp) <;> (try with_reducible rfl))
     (try go_simp)
     refine wpAnyH_take (i:=17) (v:=?v17) rfl (by kernel_rfl) (by kernel_rfl) (by kernel_rfl) (fun _ _ _ h=>h) (Or.inl ⟨by rfl,?y17⟩) (by assumption) ?r17
     case y17=>((intro w hSw;(try dsimp only at hSw);go_simp) <;> (try with_reducible rfl))
     (try go_simp)
     refine wpAnyH_take (i:=18) (v:=?v18) rfl (by kernel_rfl) (by kernel_rfl) (by kernel_rfl) (fun _ _ _ h=>h) (Or.inl ⟨by rfl,?y18⟩) (by assumption) ?r18
     case y18=>((intro w hSw;(try dsimp only at hSw);go_simp) <;> (try with_reducible rfl))
     (try go_simp)
     refine wpAnyH_take (i:=19) (v:=?v19) rfl (by kernel_rfl) (by kernel_rfl) (by kernel_rfl) (fun _ _ _ h=>h) (Or.inl ⟨by rfl,?y19⟩) (by assumption) ?r19
     case y19=>((intro w hSw;(try dsimp only at hSw);go_simp) <;> (try with_reducible rfl))
     (try go_simp)
     refine wpAnyH_take (i:=20) (v:=?v20) rfl (by kernel_rfl) (by kernel_rfl) (by kernel_rfl) (fun _ _ _ h=>h) (Or.inl ⟨by rfl,?y20⟩) (by assumption) ?r20
     case y20=>((intro w hSw;(try dsimp only at hSw);go_simp) <;> (try with_reducible rfl))
     (try go_simp)
     refine wpAnyH_take (i:=21) (v:=?v21) rfl (by kernel_rfl) (by kernel_rfl) (by kernel_rfl) (fun _ _ _ h=>h) (Or.inl ⟨by rfl,?y21⟩) (by assumption) ?r21
     case y21=>((intro w hSw;(try dsimp only at hSw);go_simp) <;> (try with_reducible rfl))
     (try go_simp)
     refine wpAnyH_take (i:=22) (v:=?v22) rfl (by kernel_rfl) (by kernel_rfl) (by kernel_rfl) (fun _ _ _ h=>h) (Or.inl ⟨by rfl,?y22⟩) (by assumption) ?r22
     case y22=>((intro w hSw;(try dsimp only at hSw);go_simp) <;> (try with_reducible rfl))
     (try go_simp)
     refine wpAnyH_take (i:=23) (v:=?v23) rfl (by kernel_rfl) (by kernel_rfl) (by kernel_rfl) (fun _ _ _ h=>h) (Or.inl ⟨by rfl,?y23⟩) (by assumption) ?r23
     case y23=>((intro w hSw;(try dsimp only at hSw);go_simp) <;> (try with_reducible rfl))
     (try go_simp)
     refine wpAnyH_take (i:=24) (v:=?v24) rfl (by kernel_rfl) (by kernel_rfl) (by kernel_rfl) (fun _ _ _ h=>h) (Or.inl ⟨by rfl,?y24⟩) (by assumption) ?r24
     case y24=>((intro w hSw;(try dsimp only at hSw);go_simp) <;> (try with_reducible rfl))
     (try go_simp)
     refine wpAnyH_take (i:=25) (v:=?v25) rfl (by kernel_rfl) (by kernel_rfl) (by kernel_rfl) (fun _ _ _ h=>h) (Or.inl ⟨by rfl,?y25⟩) (by assumption) ?r25
     case y25=>((intro w hSw;(try dsimp only at hSw);go_simp) <;> (try with_reducible rfl))
     (try go_simp)
     refine wpAnyH_take (i:=26) (v:=?v26) rfl (by kernel_rfl) (by kernel_rfl) (by kernel_rfl) (fun _ _ _ h=>h) (Or.inl ⟨by rfl,?y26⟩) (by assumption) ?r26
     case y26=>((intro w hSw;(try dsimp only at hSw);go_simp) <;> (try with_reducible rfl))
     (try go_simp)
     refine wpAnyH_take (i:=27) (v:=?v27) rfl (by kernel_rfl) (by kernel_rfl) (by kernel_rfl) (fun _ _ _ h=>h) (Or.inl ⟨by rfl,?y27⟩) (by assumption) ?r27
     case y27=>((intro w hSw;(try dsimp only at hSw);go_simp) <;> (try with_reducible rfl))
     (try go_simp)
     refine wpAnyH_take (i:=28) (v:=?v28) rfl (by kernel_rfl) (by kernel_rfl) (by kernel_rfl) (fun _ _ _ h=>h) (Or.inl ⟨by rfl,?y28⟩) (by assumption) ?r28
     case y28=>((intro w hSw;(try dsimp only at hSw);go_simp) <;> (try with_reducible rfl))
     (try go_simp)
     refine wpAnyH_take (i:=29) (v:=?v29) rfl (by kernel_rfl) (by kernel_rfl) (by kernel_rfl) (fun _ _ _ h=>h) (Or.inl ⟨by rfl,?y29⟩) (by assumption) ?r29
     case y29=>((intro w hSw;(try dsimp only at hSw);go_simp) <;> (try with_reducible rfl))
     (try go_simp)
     refine wpAnyH_take (i:=30) (v:=?v30) rfl (by kernel_rfl) (by kernel_rfl) (by kernel_rfl) (fun _ _ _ h=>h) (Or.inl ⟨by rfl,?y30⟩) (by assumption) ?r30
     case y30=>((intro w hSw;(try dsimp only at hSw);go_simp) <;> (try with_reducible rfl))
     (try go_simp)
     refine wpAnyH_take (i:=31) (v:=?v31) rfl (by kernel_rfl) (by kernel_rfl) (by kernel_rfl) (fun _ _ _ h=>h) (Or.inl ⟨by rfl,?y31⟩) (by assumption) ?r31
     case y31=>((intro w hSw;(try dsimp only at hSw);go_simp) <;> (try with_reducible rfl))
     (try go_simp)
     refine wpAnyH_take (i:=32) (v:=?v32) rfl (by kernel_rfl) (by kernel_rfl) (by kernel_rfl) (fun _ _ _ h=>h) (Or.inl ⟨by rfl,?y32⟩) (by assumption) ?r32
     case y32=>((intro w hSw;(try dsimp only at hSw);go_simp) <;> (try with_reducible rfl))
     (try go_simp)
     refine wpAnyH_take (i:=33) (v:=?v33) rfl (by kernel_rfl) (by kernel_rfl) (by kernel_rfl) (fun _ _ _ h=>h) (Or.inl ⟨by rfl,?y33⟩) (by assumption) ?r33
     case y33=>((intro w hSw;(try dsimp only at hSw);go_simp) <;> (try with_reducible rfl))
     (try go_simp)
     refine wpAnyH_take (i:=34) (v:=?v34) rfl (by kernel_rfl) (by kernel_rfl) (by kernel_rfl) (fun _ _ _ h=>h) (Or.inl ⟨by rfl,?y34⟩) (by assumption) ?r34
     case y34=>((intro w hSw;(try dsimp only at hSw);go_simp) <;> (try with_reducible rfl))
     (try go_simp)
     refine wpAnyH_ready (rs:=[35]) (by kernel_rfl) (by simp) ?_
     refine AllReadyH.cons rfl (fun K hK=>?_) AllReadyH.nil
     go_simp
     refine(HEX.out _ hbz).mono ?_
     rintro e w4 ⟨rfl,n,rfl⟩
     have hbz:=below_drewN hbz n
     refine hK.out _ _ ?_ (fun hHeld=>?_)
     · exact HX.out _ hbz
     clear hK K
     (try go_simp)
     refine wpAnyH_take (i:=36) (v:=?v36) rfl (by kernel_rfl) (by kernel_rfl) (by kernel_rfl) (fun _ _ _ h=>h) (Or.inl ⟨by rfl,?y36⟩) (by assumption) ?r36
     case y36=>((intro w hSw;(try dsimp only at hSw);go_simp) <;> (try with_reducible rfl))
     (try go_simp)
     refine wpAnyH_take (i:=37) (v:=?v37) rfl (by kernel_rfl) (by kernel_rfl) (by kernel_rfl) (fun _ _ _ h=>h) (Or.inl ⟨by rfl,?y37⟩) (by assumption) ?r37
     case y37=>((intro w hSw;(try dsimp only at hSw);go_simp) <;> (try with_reducible rfl))
     (try go_simp)
     refine wpAnyH_take (i:=38) (v:=?v38) rfl (by kernel_rfl) (by kernel_rfl) (by kernel_rfl) (fun _ _ _ h=>h) (Or.inl ⟨by rfl,?y38⟩) (by assumption) ?r38
     case y38=>((intro w hSw;(try dsimp only at hSw);go_simp) <;> (try with_reducible rfl))
     (try go_simp)
     refine wpAnyH_take (i:=39) (v:=?v39) rfl (by kernel_rfl) (by kernel_rfl) (by kernel_rfl) (fun _ _ _ h=>h) (Or.inl ⟨by rfl,?y39⟩) (by assumption) ?r39
     case y39=>((intro w hSw;(try dsimp only at hSw);go_simp) <;> (try with_reducible rfl))
     (try go_simp)
     refine wpAnyH_done (by kernel_rfl) ?_ _
     all_goals
      go_wp2_with fail
      go_meet
      exact⟨rfl,Lib.hid hbz⟩
    case rest=>
     obtain⟨rfl,hbz⟩:=hcut
     have HFB:=Lib.hid (HBR.out.trans (hbz.out.mono HBR.out.size))
     clear hbz HX HLK HEX
     go_wp2
     go_roundw
     case rel=>first|exact⟨k+1,by go_num,by omega,HFB⟩ | ((repeat apply Exists.intro);exact⟨⟨k+1,by go_num,by omega,HFB⟩,rfl⟩)
     case measure=>simp[intOf];omega
  · have hkz: (A.length:Int)≤(k:Int):=by omega
    go_wp2
    go_ret
    exact⟨rfl,HBR.out⟩
end Go.Proofs.YthlofmnmacpogaaGreatDoor
namespace Go.Proofs.YthlofmnmacpogaaGreatDoor
open Go.RowKit
def GO1 (w:World) (x:St) (a er l c:Int) (e:Ending) (w':World):Prop:=∃ (nv iv:Value),e=.returned (.tuple #[stV x nv iv,.int .i64 a,.agg #[.int .i64 er,.int .i64 l,.int .i64 c]])∧NmRow w' nv x.names∧ItRow w' iv x.ifs∧Below w.heap.size w w'
theorem ones_both (T:List Tk) (i:Int):∃ x a er l c,(∀ w B lv,TkIn w B lv T→B≤w.heap.size→Calls Tryz.prog 11 #[lv,.int .i64 i] w (GO1 w x a er l c))∧(∀ w B lv,TkIn w B lv T→B≤w.heap.size→Calls Tryz.prog 12 #[lv,.int .i64 i] w (GO1 w x a er l c)):=by
 cases h:oneD T i with
 | ok x a=>
   refine⟨x,a,0,0,0,fun w B lv ht hB=>(done_any (ht.mono hB) i).mono ?_,fun w B lv ht hB=>(rdone_any ht hB i).mono ?_⟩
   · rw[h]
     rintro e w' ⟨nv,iv,rfl,hn,hi,hb⟩
     exact⟨nv,iv,rfl,⟨_,hn⟩,⟨_,hi⟩,hb⟩
   · rw[h]
     rintro e w' ⟨nv,iv,rfl,hn,hi,hb⟩
     exact⟨nv,iv,rfl,hn,hi,hb⟩
 | bad er l c=>
   refine⟨noSt,0,er,l,c,fun w B lv ht hB=>(done_any (ht.mono hB) i).mono ?_,fun w B lv ht hB=>(rdone_any ht hB i).mono ?_⟩
   · rw[h]
     rintro e w' ⟨rfl,hb⟩
     exact⟨_,_,rfl,⟨0,World.ownsRow_nil _ _ _ _⟩,⟨0,World.ownsRow_nil _ _ _ _⟩,hb⟩
   · rw[h]
     rintro e w' ⟨rfl,hb⟩
     exact⟨_,_,rfl,⟨0,World.ownsRow_nil _ _ _ _⟩,⟨0,World.ownsRow_nil _ _ _ _⟩,hb⟩
theorem SvRow.one (w:World) (x:St) {nv iv:Value} (hn:NmRow w nv x.names) (hi:ItRow w iv x.ifs):SvRow (w.alloc (.cells #[.int .i64 x.kind,.string x.name,.int .i64 x.line,.int .i64 x.col,.int .i64 x.init,nv,.string x.role,.string x.stage,.string x.event,.int .i64 x.times,iv,.bool x.final] 37)) (.slice (some ⟨w.heap.size,0,none⟩) 1 1) [(x,nv,iv)]:=by
 have hal:=(Below.refl w.heap.size w).alloc (Nat.le_refl _) (.cells #[.int .i64 x.kind,.string x.name,.int .i64 x.line,.int .i64 x.col,.int .i64 x.init,nv,.string x.role,.string x.stage,.string x.event,.int .i64 x.times,iv,.bool x.final] 37)
 obtain⟨a1,c1,e1⟩:=hn.len
 obtain⟨a2,c2,e2⟩:=hi.len
 refine⟨0,?_,fun e he=>?_,fun e he=>?_⟩
 · have:=World.ownsRow_lit (e:=37) (size:=12) w #[.int .i64 x.kind,.string x.name,.int .i64 x.line,.int .i64 x.col,.int .i64 x.init,nv,.string x.role,.string x.stage,.string x.event,.int .i64 x.times,iv,.bool x.final] 1 (Nat.zero_le _) (by decide) (by simp)
   exact this
 · obtain rfl:e= (x,nv,iv):=by simpa using he
   exact(hn.keep hal).elim fun _ hr=>owns_mono hr (Nat.zero_le _)
 · obtain rfl:e= (x,nv,iv):=by simpa using he
   exact(hi.keep hal).elim fun _ hr=>owns_mono hr (Nat.zero_le _)
set_option maxRecDepth 100000 in
set_option maxHeartbeats 8000000 in
theorem lawOnes_any {w:World} {B:Nat} {lv:Value} {T:List Tk} (h:TkIn w B lv T) (hB:B≤w.heap.size) (i:Int) (hm:MaxCell w) :
 Calls Tryz.prog 4 #[lv,.int .i64 i] w fun e w'=>e=.returned (.bool true)∧Below w.heap.size w w':=by
 have HZ:0 < w.heap.size:=by obtain⟨m,hm⟩:=hm;exact World.block_lt_of_cell? w _ hm
 have HMX:Hid (∀ W,Below w.heap.size w W→MaxCell W):=fun W hW=>hm.below hW HZ
 have HAW:=Lib.hid (fun W (hW:Below w.heap.size w W)=>awake07 W (HMX.out W hW))
 have HTK:Hid (∀ W,Below w.heap.size w W→TkIn W B lv T):=fun W hW=>h.below (hW.mono hB)
 have HBB:=Lib.hid hB
 obtain⟨ad,cap,hv,hl,_⟩:=h
 subst hv
 clear hm HZ hB
 by_cases hb: (400:Int) < (T.length:Int)
 · go_enter Tryz.func4,Tryz.ntmps4
   go_wp2_with fail
   refine(HAW.out _ (Below.refl _ _)).mono ?_
   rintro e w4 ⟨rfl,hb4⟩
   go_wp2
   go_ret
   exact⟨rfl,hb4⟩
 · obtain⟨x,a,er,l,c,H1,H2⟩:=ones_both T i
   have HR1:=Lib.hid (H1 w B _ (HTK.out _ (Below.refl _ _)) HBB.out)
   have HR2:=Lib.hid H2
   clear H1 H2
   go_enter Tryz.func4,Tryz.ntmps4
   go_wp2_with fail
   refine HR1.out.mono ?_
   rintro e w1 ⟨nv1,iv1,rfl,hn1,hi1,hb1⟩
   obtain⟨b1,k1,e1⟩:=hn1.len
   obtain⟨b2,k2,e2⟩:=hi1.len
   obtain⟨nl,hnl⟩:∃ n,x.names.length=n:=⟨_,rfl⟩
   obtain⟨il,hil⟩:∃ n,x.ifs.length=n:=⟨_,rfl⟩
   rw[hnl] at e1
   rw[hil] at e2
   subst e1 e2
   have HNL:=Lib.hid hnl;have HIL:=Lib.hid hil
   unfold stV
   have hal1:Below w1.heap.size w1 ((w1.alloc (.cells #[.int .i64 x.kind,.string x.name,.int .i64 x.line,.int .i64 x.col,.int .i64 x.init,(.slice b1 nl k1),.string x.role,.string x.stage,.string x.event,.int .i64 x.times,(.slice b2 il k2),.bool x.final] 37)).alloc (.cells #[.int .i64 er,.int .i64 l,.int .i64 c] 28)):=((Below.refl _ _).alloc (Nat.le_refl _) _).alloc (by simp) _
   have HS1:=Lib.hid (show StB ((w1.alloc (.cells #[.int .i64 x.kind,.string x.name,.int .i64 x.line,.int .i64 x.col,.int .i64 x.init,(.slice b1 nl k1),.string x.role,.string x.stage,.string x.event,.int .i64 x.times,(.slice b2 il k2),.bool x.final] 37)).alloc (.cells #[.int .i64 er,.int .i64 l,.int .i64 c] 28)) w1.heap.size x (.slice b1 nl k1) (.slice b2 il k2) from StB.alloc (heap_alloc_new w1 _) _)
   have HF1:=Lib.hid (show FtB ((w1.alloc (.cells #[.int .i64 x.kind,.string x.name,.int .i64 x.line,.int .i64 x.col,.int .i64 x.init,(.slice b1 nl k1),.string x.role,.string x.stage,.string x.event,.int .i64 x.times,(.slice b2 il k2),.bool x.final] 37)).alloc (.cells #[.int .i64 er,.int .i64 l,.int .i64 c] 28)) (w1.heap.size+1) er l c from heap_at_size _ _ _ (by simp))
   have HN1:=Lib.hid (hn1.keep hal1)
   have HI1:=Lib.hid (hi1.keep hal1)
   have HB1:=Lib.hid (hb1.trans (hal1.mono hb1.size))
   obtain⟨W1,hW1⟩:∃ W,((w1.alloc (.cells #[.int .i64 x.kind,.string x.name,.int .i64 x.line,.int .i64 x.col,.int .i64 x.init,(.slice b1 nl k1),.string x.role,.string x.stage,.string x.event,.int .i64 x.times,(.slice b2 il k2),.bool x.final] 37)).alloc (.cells #[.int .i64 er,.int .i64 l,.int .i64 c] 28))=W:=⟨_,rfl⟩
   rw[hW1] at HF1 HS1 HB1 HN1 HI1
   replace hW1:=Lib.hid hW1
   clear hn1 hi1 hb1 hal1 HR1 hnl hil
   go_wp2_with fail
   rw[hW1.out]
   refine(HR2.out _ B _ (HTK.out _ HB1.out) (Nat.le_trans HBB.out HB1.out.size)).mono ?_
   rintro e w2 ⟨nv2,iv2,rfl,hn2,hi2,hb2⟩
   obtain⟨b3,k3,e3⟩:=hn2.len
   obtain⟨b4,k4,e4⟩:=hi2.len
   rw[HNL.out] at e3
   rw[HIL.out] at e4
   subst e3 e4
   unfold stV
   have hal2:Below w2.heap.size w2 ((w2.alloc (.cells #[.int .i64 x.kind,.string x.name,.int .i64 x.line,.int .i64 x.col,.int .i64 x.init,(.slice b3 nl k3),.string x.role,.string x.stage,.string x.event,.int .i64 x.times,(.slice b4 il k4),.bool x.final] 37)).alloc (.cells #[.int .i64 er,.int .i64 l,.int .i64 c] 28)):=((Below.refl _ _).alloc (Nat.le_refl _) _).alloc (by simp) _
   have s1:=(HS1.out.below hb2).below hal2
   have f1:=(HF1.out.below hb2).below hal2
   have s2:StB ((w2.alloc (.cells #[.int .i64 x.kind,.string x.name,.int .i64 x.line,.int .i64 x.col,.int .i64 x.init,(.slice b3 nl k3),.string x.role,.string x.stage,.string x.event,.int .i64 x.times,(.slice b4 il k4),.bool x.final] 37)).alloc (.cells #[.int .i64 er,.int .i64 l,.int .i64 c] 28)) w2.heap.size x (.slice b3 nl k3) (.slice b4 il k4):=StB.alloc (heap_alloc_new w2 _) _
   have f2:FtB ((w2.alloc (.cells #[.int .i64 x.kind,.string x.name,.int .i64 x.line,.int .i64 x.col,.int .i64 x.init,(.slice b3 nl k3),.string x.role,.string x.stage,.string x.event,.int .i64 x.times,(.slice b4 il k4),.bool x.final] 37)).alloc (.cells #[.int .i64 er,.int .i64 l,.int .i64 c] 28)) (w2.heap.size+1) er l c:=heap_at_size _ _ _ (by simp)
   have HN2:=Lib.hid ((HN1.out.keep hb2).keep hal2)
   have HI2:=Lib.hid ((HI1.out.keep hb2).keep hal2)
   have HM2:=Lib.hid (hn2.keep hal2)
   have HJ2:=Lib.hid (hi2.keep hal2)
   have HB2:=Lib.hid ((HB1.out.trans (hb2.mono HB1.out.size)).trans (hal2.mono (Nat.le_trans HB1.out.size hb2.size)))
   obtain⟨W2,hW2⟩:∃ W,((w2.alloc (.cells #[.int .i64 x.kind,.string x.name,.int .i64 x.line,.int .i64 x.col,.int .i64 x.init,(.slice b3 nl k3),.string x.role,.string x.stage,.string x.event,.int .i64 x.times,(.slice b4 il k4),.bool x.final] 37)).alloc (.cells #[.int .i64 er,.int .i64 l,.int .i64 c] 28))=W:=⟨_,rfl⟩
   rw[hW2] at s1 f1 s2 f2 HN2 HI2 HM2 HJ2 HB2
   replace hW2:=Lib.hid hW2
   have r1:=SvRow.one W2 x HN2.out HI2.out
   have al3:=(Below.refl W2.heap.size W2).alloc (Nat.le_refl _) (.cells #[.int .i64 x.kind,.string x.name,.int .i64 x.line,.int .i64 x.col,.int .i64 x.init,(.slice b1 nl k1),.string x.role,.string x.stage,.string x.event,.int .i64 x.times,(.slice b2 il k2),.bool x.final] 37)
   have r2:=SvRow.one (W2.alloc (.cells #[.int .i64 x.kind,.string x.name,.int .i64 x.line,.int .i64 x.col,.int .i64 x.init,(.slice b1 nl k1),.string x.role,.string x.stage,.string x.event,.int .i64 x.times,(.slice b2 il k2),.bool x.final] 37)) x (HM2.out.keep al3) (HJ2.out.keep al3)
   have al4:Below (W2.alloc (.cells #[.int .i64 x.kind,.string x.name,.int .i64 x.line,.int .i64 x.col,.int .i64 x.init,(.slice b1 nl k1),.string x.role,.string x.stage,.string x.event,.int .i64 x.times,(.slice b2 il k2),.bool x.final] 37)).heap.size (W2.alloc (.cells #[.int .i64 x.kind,.string x.name,.int .i64 x.line,.int .i64 x.col,.int .i64 x.init,(.slice b1 nl k1),.string x.role,.string x.stage,.string x.event,.int .i64 x.times,(.slice b2 il k2),.bool x.final] 37)) ((W2.alloc (.cells #[.int .i64 x.kind,.string x.name,.int .i64 x.line,.int .i64 x.col,.int .i64 x.init,(.slice b1 nl k1),.string x.role,.string x.stage,.string x.event,.int .i64 x.times,(.slice b2 il k2),.bool x.final] 37)).alloc (.cells #[.int .i64 x.kind,.string x.name,.int .i64 x.line,.int .i64 x.col,.int .i64 x.init,(.slice b3 nl k3),.string x.role,.string x.stage,.string x.event,.int .i64 x.times,(.slice b4 il k4),.bool x.final] 37)):=(Below.refl _ _).alloc (Nat.le_refl _) _
   rw[World.size_alloc] at r2
   have HSM:=Lib.hid (same07_yes (r1.keep al4) r2 (by rfl))
   have HBX:=Lib.hid (HB2.out.trans ((al3.trans (al4.mono al3.size)).mono HB2.out.size))
   have HG1:=Lib.hid ((f1.below al3).below al4)
   have HG2:=Lib.hid ((f2.below al3).below al4)
   obtain⟨a0,a1,a2,a3,a4,a5,a6,a7,a8,a9,a10,a11⟩:=s1.facts
   obtain⟨y0,y1,y2,y3,y4,y5,y6,y7,y8,y9,y10,y11⟩:=s2.facts
   obtain⟨z0,z1,z2,z3,z4,z5,z6,z7,z8,z9,z10,z11⟩:=(s2.below al3).facts
   clear hn2 hi2 hb2 hal2 HF1 HS1 HN1 HI1 s1 f1 s2 f2 r1 r2 al3 al4
   go_upto_region 5 with fail
   rw[hW2.out]
   go_wp2_with fail
   refine HSM.out.mono ?_
   rintro e w3 ⟨rfl,hb3⟩
   obtain⟨p0,p1,p2⟩:=(HG1.out.below hb3).facts
   obtain⟨q0,q1,q2⟩:=(HG2.out.below hb3).facts
   have HB3:=Lib.hid (HBX.out.trans (hb3.mono HBX.out.size))
   clear hb3
   go_wp2_with fail
   refine(HAW.out _ HB3.out).mono ?_
   rintro e w4 ⟨rfl,hb4⟩
   have HB4:=Lib.hid (HB3.out.trans (hb4.mono HB3.out.size))
   clear hb4
   go_wp2
   go_ret
   exact⟨rfl,HB4.out⟩
end Go.Proofs.YthlofmnmacpogaaGreatDoor
namespace Go.Proofs.YthlofmnmacpogaaGreatDoor
open Go.RowKit
set_option maxHeartbeats 4000000 in
theorem lawOnesCard_any {w:World} (hm:MaxCell w) (ad:Option Addr) (len cap:Nat) (i:Int) (hT:len≤400→∃ T:List Tk,T.length=len∧TkIn w w.heap.size (.slice ad len cap) T) :
 Calls Tryz.prog 4 #[.slice ad len cap,.int .i64 i] w fun e w'=>e=.returned (.bool true)∧Below w.heap.size w w':=by
 by_cases hb: (400:Int) < (len:Int)
 · have HAW:=Lib.hid (awake07 w hm)
   clear hm hT
   go_enter Tryz.func4,Tryz.ntmps4
   go_wp2_with fail
   refine HAW.out.mono ?_
   rintro e w4 ⟨rfl,hb4⟩
   go_wp2
   go_ret
   exact⟨rfl,hb4⟩
 · obtain⟨T,_,h⟩:=hT (by omega)
   exact lawOnes_any h (Nat.le_refl _) i hm
end Go.Proofs.YthlofmnmacpogaaGreatDoor
