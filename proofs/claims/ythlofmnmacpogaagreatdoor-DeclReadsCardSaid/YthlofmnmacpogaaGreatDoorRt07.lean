/- A part of a proof of DeclReadsProof. -/
import Derived.Test.YthlofmnmacpogaaGreatDoorRt05
import Derived.Test.YthlofmnmacpogaaGreatDoorRt01
import Derived.Lib.Strings
set_option maxRecDepth 100000
set_option maxHeartbeats 40000000
namespace Go.Proofs.YthlofmnmacpogaaGreatDoor
open Go.RowKit
theorem rsmallB_any (c:Int) (w:World):Calls Tryz.prog 62 #[.int .i64 c] w fun e w'=>e=.returned (.bool (smallB c))∧w=w':=by
 have H:Hid (smallB c=decide (97≤c∧c≤122)):=rfl
 rcases(show c < 97∨(97≤c∧c≤122)∨122 < c by omega) with h| ⟨h,h'⟩ | h
 all_goals
  go_enter Tryz.func62,Tryz.ntmps62
  go_wp2
  go_ret
  exact⟨ret_bool (by rw[H.out];simp;try omega),rfl⟩
theorem rgreatB_any (c:Int) (w:World):Calls Tryz.prog 63 #[.int .i64 c] w fun e w'=>e=.returned (.bool (greatB c))∧w=w':=by
 have H:Hid (greatB c=decide (65≤c∧c≤90)):=rfl
 rcases(show c < 65∨(65≤c∧c≤90)∨90 < c by omega) with h| ⟨h,h'⟩ | h
 all_goals
  go_enter Tryz.func63,Tryz.ntmps63
  go_wp2
  go_ret
  exact⟨ret_bool (by rw[H.out];simp;try omega),rfl⟩
theorem rdigitB_any (c:Int) (w:World):Calls Tryz.prog 65 #[.int .i64 c] w fun e w'=>e=.returned (.bool (digitB c))∧w=w':=by
 have H:Hid (digitB c=decide (48≤c∧c≤57)):=rfl
 rcases(show c < 48∨(48≤c∧c≤57)∨57 < c by omega) with h| ⟨h,h'⟩ | h
 all_goals
  go_enter Tryz.func65,Tryz.ntmps65
  go_wp2
  go_ret
  exact⟨ret_bool (by rw[H.out];simp;try omega),rfl⟩
def RR (w:World) (v:Value) (L:List Rn):Prop:=∃ B,w.ownsRow B 79 5 v L.length (rnFlat .i64 L)
theorem RR.keep {w w':World} {v:Value} {L:List Rn} (h:RR w v L) (hb:Below w.heap.size w w'):RR w' v L:=by
 obtain⟨B,h⟩:=h;exact⟨B,owns_below h hb⟩
theorem rat_any {w:World} {v:Value} {L:List Rn} (h:RR w v L) (k:Int) (h0:0≤k) (hk:k≤4294967296) :
 Calls Tryz.prog 66 #[v,.int .i64 k] w fun e w'=>e=.returned (.int .i64 (rAt L k.toNat))∧w=w':=by
 obtain⟨i,rfl⟩:=Int.eq_ofNat_of_zero_le h0
 rw[Int.toNat_natCast]
 obtain⟨B,h⟩:=h
 by_cases hlt:i < L.length
 · obtain⟨x,hx⟩:∃ x,L[i]?=some x:=⟨_,List.getElem?_eq_getElem hlt⟩
   have HA:=Lh (rAt_some hx)
   obtain⟨g,cap,rfl,hg,hgs⟩:=owns_shape h (by omega)
   have c0:=(World.ownsRow.cellAt h (i * 5) (by omega)).trans (rnFlat_get .i64 _ i 0 x hx (by omega))
   simp only[rnCells,List.getElem?_cons_zero] at c0
   have hz: (i:Int) < (L.length:Int):=by omega
   clear h hx
   go_enter Tryz.func66,Tryz.ntmps66
   go_wp2
   go_ret
   exact⟨by rw[HA.out];rfl,rfl⟩
 · have HA:=Lh (rAt_none (L:=L) (i:=i) (by omega))
   obtain⟨ad,cap,rfl⟩:=owns_len h
   have hz:¬(i:Int) < (L.length:Int):=by omega
   clear h
   go_enter Tryz.func66,Tryz.ntmps66
   go_wp2
   go_ret
   exact⟨by rw[HA.out];rfl,rfl⟩
theorem innerB_cases (c:Int): (innerB c=true∧smallB c=true)∨(innerB c=true∧smallB c=false∧greatB c=true)∨(innerB c=true∧smallB c=false∧greatB c=false∧digitB c=true)∨
 (smallB c=false∧greatB c=false∧digitB c=false∧innerB c= (c == 95)):=by
 unfold innerB letterB
 cases smallB c <;> cases greatB c <;> cases digitB c <;> simp <;> rfl
theorem rword_any {w:World} {v:Value} {L:List Rn} (h:RR w v L) (i:Nat) (hL:L.length≤70000) (hi:i≤L.length) :
 Calls Tryz.prog 64 #[v,.int .i64 i] w fun e w'=>e=.returned (.int .i64 (rowE innerB L i:Nat))∧w=w':=by
 have HR:=Lh h;clear h
 go_enter Tryz.func64,Tryz.ntmps64
 go_wp2
 go_loop [1] (fun m=>∃ k:Nat,k≤L.length∧m=.int .i64 k∧Hid (rowE innerB L i=rowE innerB L k)) (fun m=>L.length - (intOf m).toNat)
 case atStart=>exact⟨i,hi,rfl,rfl⟩
 case round=>
  obtain⟨k,hk,rfl,HE⟩:=hrel
  have hgo:innerB (rAt L k)=true→k < L.length:=by
   intro hq
   by_cases hc:k < L.length
   · exact hc
   · rw[rAt_none (by omega)] at hq;exact absurd hq (by decide)
  have hyes:innerB (rAt L k)=true→rowE innerB L i=rowE innerB L (k+1):=fun hq=>by rw[HE.out,rowE_yes _ (by decide) _ _ hq]
  have hno:innerB (rAt L k)=false→rowE innerB L i=k:=fun hq=>by rw[HE.out,rowE_no _ _ _ hq]
  obtain⟨c,hc⟩:∃ c,c=rAt L k:=⟨_,rfl⟩
  rw[←hc] at hgo hyes hno
  have HC:=Lh hc;clear hc
  rcases innerB_cases c with⟨h0,h1⟩ | ⟨h0,h1,h2⟩ | ⟨h0,h1,h2,h3⟩ | ⟨h1,h2,h3,h0⟩
  · have hlt:=hgo h0
    have HY:=Lh (hyes h0)
    clear hgo hyes hno h0
    go_wp2_with (first| (go_at_call 66;refine(rat_any HR.out _ (by omega) (by omega)).mono ?_;rintro e w' ⟨rfl,rfl⟩;rw[Int.toNat_natCast,←HC.out])| (go_at_call 62;refine(rsmallB_any _ _).mono ?_;rintro e w' ⟨rfl,rfl⟩))
    go_round
    case rel=>exact⟨k+1,by omega,by go_num,HY⟩
    case measure=>simp[intOf];omega
  · have hlt:=hgo h0
    have HY:=Lh (hyes h0)
    clear hgo hyes hno h0
    go_wp2_with (first| (go_at_call 66;refine(rat_any HR.out _ (by omega) (by omega)).mono ?_;rintro e w' ⟨rfl,rfl⟩;rw[Int.toNat_natCast,←HC.out])| (go_at_call 62;refine(rsmallB_any _ _).mono ?_;rintro e w' ⟨rfl,rfl⟩)| (go_at_call 63;refine(rgreatB_any _ _).mono ?_;rintro e w' ⟨rfl,rfl⟩))
    go_round
    case rel=>exact⟨k+1,by omega,by go_num,HY⟩
    case measure=>simp[intOf];omega
  · have hlt:=hgo h0
    have HY:=Lh (hyes h0)
    clear hgo hyes hno h0
    go_wp2_with (first| (go_at_call 66;refine(rat_any HR.out _ (by omega) (by omega)).mono ?_;rintro e w' ⟨rfl,rfl⟩;rw[Int.toNat_natCast,←HC.out])| (go_at_call 62;refine(rsmallB_any _ _).mono ?_;rintro e w' ⟨rfl,rfl⟩)| (go_at_call 63;refine(rgreatB_any _ _).mono ?_;rintro e w' ⟨rfl,rfl⟩)| (go_at_call 65;refine(rdigitB_any _ _).mono ?_;rintro e w' ⟨rfl,rfl⟩))
    go_round
    case rel=>exact⟨k+1,by omega,by go_num,HY⟩
    case measure=>simp[intOf];omega
  · cases h5: (c == 95)
    · rw[h5] at h0
      have HN:=Lh (hno h0)
      clear hgo hyes hno h0
      go_wp2_with (first| (go_at_call 66;refine(rat_any HR.out _ (by omega) (by omega)).mono ?_;rintro e w' ⟨rfl,rfl⟩;rw[Int.toNat_natCast,←HC.out])| (go_at_call 62;refine(rsmallB_any _ _).mono ?_;rintro e w' ⟨rfl,rfl⟩)| (go_at_call 63;refine(rgreatB_any _ _).mono ?_;rintro e w' ⟨rfl,rfl⟩)| (go_at_call 65;refine(rdigitB_any _ _).mono ?_;rintro e w' ⟨rfl,rfl⟩))
      go_ret
      exact⟨ret_int (by rw[HN.out]),rfl⟩
    · rw[h5] at h0
      have hlt:=hgo h0
      have HY:=Lh (hyes h0)
      clear hgo hyes hno h0
      go_wp2_with (first| (go_at_call 66;refine(rat_any HR.out _ (by omega) (by omega)).mono ?_;rintro e w' ⟨rfl,rfl⟩;rw[Int.toNat_natCast,←HC.out])| (go_at_call 62;refine(rsmallB_any _ _).mono ?_;rintro e w' ⟨rfl,rfl⟩)| (go_at_call 63;refine(rgreatB_any _ _).mono ?_;rintro e w' ⟨rfl,rfl⟩)| (go_at_call 65;refine(rdigitB_any _ _).mono ?_;rintro e w' ⟨rfl,rfl⟩))
      go_round
      case rel=>exact⟨k+1,by omega,by go_num,HY⟩
      case measure=>simp[intOf];omega
def signN (c d:Int):Nat:=
 if(c=60∨c=62∨c=33)∧d=61 then 2
 else if c=60∨c=62∨c=61∨c=40∨c=41∨c=91∨c=93∨c=44∨c=59 then 1 else 0
theorem rsign_60t {w:World} {v:Value} {L:List Rn} (h:RR w v L) (i:Nat) (hi:i≤4294967290) (hc0:rAt L i=60) (hd:rAt L (i+1)=61) :
 Calls Tryz.prog 67 #[v,.int .i64 i] w fun e w'=>e=.returned (.int .i64 2)∧w=w':=by
 have HR:=Lh h;clear h
 have HC:=Lh hc0;clear hc0
 go_enter Tryz.func67,Tryz.ntmps67
 go_wp2_with fail
 refine(rat_any HR.out _ (by omega) (by omega)).mono ?_
 rintro e w' ⟨rfl,rfl⟩
 rw[Int.toNat_natCast,HC.out]
 go_wp2_with fail
 refine(rat_any HR.out _ (by omega) (by omega)).mono ?_
 rintro e w' ⟨rfl,rfl⟩
 rw[show((i:Int)+1).toNat=i+1 by omega]
 go_wp2
 go_ret
 exact⟨rfl,rfl⟩
theorem rsign_60f {w:World} {v:Value} {L:List Rn} (h:RR w v L) (i:Nat) (hi:i≤4294967290) (hc0:rAt L i=60) (hd: (rAt L (i+1) == 61)=false) :
 Calls Tryz.prog 67 #[v,.int .i64 i] w fun e w'=>e=.returned (.int .i64 1)∧w=w':=by
 have HR:=Lh h;clear h
 have HC:=Lh hc0;clear hc0
 go_enter Tryz.func67,Tryz.ntmps67
 go_wp2_with fail
 refine(rat_any HR.out _ (by omega) (by omega)).mono ?_
 rintro e w' ⟨rfl,rfl⟩
 rw[Int.toNat_natCast,HC.out]
 go_wp2_with fail
 refine(rat_any HR.out _ (by omega) (by omega)).mono ?_
 rintro e w' ⟨rfl,rfl⟩
 rw[show((i:Int)+1).toNat=i+1 by omega]
 go_wp2
 go_ret
 exact⟨rfl,rfl⟩
theorem rsign_62t {w:World} {v:Value} {L:List Rn} (h:RR w v L) (i:Nat) (hi:i≤4294967290) (hc0:rAt L i=62) (hd:rAt L (i+1)=61) :
 Calls Tryz.prog 67 #[v,.int .i64 i] w fun e w'=>e=.returned (.int .i64 2)∧w=w':=by
 have HR:=Lh h;clear h
 have HC:=Lh hc0;clear hc0
 go_enter Tryz.func67,Tryz.ntmps67
 go_wp2_with fail
 refine(rat_any HR.out _ (by omega) (by omega)).mono ?_
 rintro e w' ⟨rfl,rfl⟩
 rw[Int.toNat_natCast,HC.out]
 go_wp2_with fail
 refine(rat_any HR.out _ (by omega) (by omega)).mono ?_
 rintro e w' ⟨rfl,rfl⟩
 rw[show((i:Int)+1).toNat=i+1 by omega]
 go_wp2
 go_ret
 exact⟨rfl,rfl⟩
theorem rsign_62f {w:World} {v:Value} {L:List Rn} (h:RR w v L) (i:Nat) (hi:i≤4294967290) (hc0:rAt L i=62) (hd: (rAt L (i+1) == 61)=false) :
 Calls Tryz.prog 67 #[v,.int .i64 i] w fun e w'=>e=.returned (.int .i64 1)∧w=w':=by
 have HR:=Lh h;clear h
 have HC:=Lh hc0;clear hc0
 go_enter Tryz.func67,Tryz.ntmps67
 go_wp2_with fail
 refine(rat_any HR.out _ (by omega) (by omega)).mono ?_
 rintro e w' ⟨rfl,rfl⟩
 rw[Int.toNat_natCast,HC.out]
 go_wp2_with fail
 refine(rat_any HR.out _ (by omega) (by omega)).mono ?_
 rintro e w' ⟨rfl,rfl⟩
 rw[show((i:Int)+1).toNat=i+1 by omega]
 go_wp2
 go_ret
 exact⟨rfl,rfl⟩
theorem rsign_33t {w:World} {v:Value} {L:List Rn} (h:RR w v L) (i:Nat) (hi:i≤4294967290) (hc0:rAt L i=33) (hd:rAt L (i+1)=61) :
 Calls Tryz.prog 67 #[v,.int .i64 i] w fun e w'=>e=.returned (.int .i64 2)∧w=w':=by
 have HR:=Lh h;clear h
 have HC:=Lh hc0;clear hc0
 go_enter Tryz.func67,Tryz.ntmps67
 go_wp2_with fail
 refine(rat_any HR.out _ (by omega) (by omega)).mono ?_
 rintro e w' ⟨rfl,rfl⟩
 rw[Int.toNat_natCast,HC.out]
 go_wp2_with fail
 refine(rat_any HR.out _ (by omega) (by omega)).mono ?_
 rintro e w' ⟨rfl,rfl⟩
 rw[show((i:Int)+1).toNat=i+1 by omega]
 go_wp2
 go_ret
 exact⟨rfl,rfl⟩
theorem rsign_33f {w:World} {v:Value} {L:List Rn} (h:RR w v L) (i:Nat) (hi:i≤4294967290) (hc0:rAt L i=33) (hd: (rAt L (i+1) == 61)=false) :
 Calls Tryz.prog 67 #[v,.int .i64 i] w fun e w'=>e=.returned (.int .i64 0)∧w=w':=by
 have HR:=Lh h;clear h
 have HC:=Lh hc0;clear hc0
 go_enter Tryz.func67,Tryz.ntmps67
 go_wp2_with fail
 refine(rat_any HR.out _ (by omega) (by omega)).mono ?_
 rintro e w' ⟨rfl,rfl⟩
 rw[Int.toNat_natCast,HC.out]
 go_wp2_with fail
 refine(rat_any HR.out _ (by omega) (by omega)).mono ?_
 rintro e w' ⟨rfl,rfl⟩
 rw[show((i:Int)+1).toNat=i+1 by omega]
 go_wp2
 go_ret
 exact⟨rfl,rfl⟩
theorem rsign_61 {w:World} {v:Value} {L:List Rn} (h:RR w v L) (i:Nat) (hi:i≤4294967290) (hc0:rAt L i=61) :
 Calls Tryz.prog 67 #[v,.int .i64 i] w fun e w'=>e=.returned (.int .i64 1)∧w=w':=by
 have HR:=Lh h;clear h
 have HC:=Lh hc0;clear hc0
 go_enter Tryz.func67,Tryz.ntmps67
 go_wp2_with fail
 refine(rat_any HR.out _ (by omega) (by omega)).mono ?_
 rintro e w' ⟨rfl,rfl⟩
 rw[Int.toNat_natCast,HC.out]
 go_wp2_with fail
 go_ret
 exact⟨rfl,rfl⟩
theorem rsign_40 {w:World} {v:Value} {L:List Rn} (h:RR w v L) (i:Nat) (hi:i≤4294967290) (hc0:rAt L i=40) :
 Calls Tryz.prog 67 #[v,.int .i64 i] w fun e w'=>e=.returned (.int .i64 1)∧w=w':=by
 have HR:=Lh h;clear h
 have HC:=Lh hc0;clear hc0
 go_enter Tryz.func67,Tryz.ntmps67
 go_wp2_with fail
 refine(rat_any HR.out _ (by omega) (by omega)).mono ?_
 rintro e w' ⟨rfl,rfl⟩
 rw[Int.toNat_natCast,HC.out]
 go_wp2_with fail
 go_ret
 exact⟨rfl,rfl⟩
theorem rsign_41 {w:World} {v:Value} {L:List Rn} (h:RR w v L) (i:Nat) (hi:i≤4294967290) (hc0:rAt L i=41) :
 Calls Tryz.prog 67 #[v,.int .i64 i] w fun e w'=>e=.returned (.int .i64 1)∧w=w':=by
 have HR:=Lh h;clear h
 have HC:=Lh hc0;clear hc0
 go_enter Tryz.func67,Tryz.ntmps67
 go_wp2_with fail
 refine(rat_any HR.out _ (by omega) (by omega)).mono ?_
 rintro e w' ⟨rfl,rfl⟩
 rw[Int.toNat_natCast,HC.out]
 go_wp2_with fail
 go_ret
 exact⟨rfl,rfl⟩
theorem rsign_91 {w:World} {v:Value} {L:List Rn} (h:RR w v L) (i:Nat) (hi:i≤4294967290) (hc0:rAt L i=91) :
 Calls Tryz.prog 67 #[v,.int .i64 i] w fun e w'=>e=.returned (.int .i64 1)∧w=w':=by
 have HR:=Lh h;clear h
 have HC:=Lh hc0;clear hc0
 go_enter Tryz.func67,Tryz.ntmps67
 go_wp2_with fail
 refine(rat_any HR.out _ (by omega) (by omega)).mono ?_
 rintro e w' ⟨rfl,rfl⟩
 rw[Int.toNat_natCast,HC.out]
 go_wp2_with fail
 go_ret
 exact⟨rfl,rfl⟩
theorem rsign_93 {w:World} {v:Value} {L:List Rn} (h:RR w v L) (i:Nat) (hi:i≤4294967290) (hc0:rAt L i=93) :
 Calls Tryz.prog 67 #[v,.int .i64 i] w fun e w'=>e=.returned (.int .i64 1)∧w=w':=by
 have HR:=Lh h;clear h
 have HC:=Lh hc0;clear hc0
 go_enter Tryz.func67,Tryz.ntmps67
 go_wp2_with fail
 refine(rat_any HR.out _ (by omega) (by omega)).mono ?_
 rintro e w' ⟨rfl,rfl⟩
 rw[Int.toNat_natCast,HC.out]
 go_wp2_with fail
 go_ret
 exact⟨rfl,rfl⟩
theorem rsign_44 {w:World} {v:Value} {L:List Rn} (h:RR w v L) (i:Nat) (hi:i≤4294967290) (hc0:rAt L i=44) :
 Calls Tryz.prog 67 #[v,.int .i64 i] w fun e w'=>e=.returned (.int .i64 1)∧w=w':=by
 have HR:=Lh h;clear h
 have HC:=Lh hc0;clear hc0
 go_enter Tryz.func67,Tryz.ntmps67
 go_wp2_with fail
 refine(rat_any HR.out _ (by omega) (by omega)).mono ?_
 rintro e w' ⟨rfl,rfl⟩
 rw[Int.toNat_natCast,HC.out]
 go_wp2_with fail
 go_ret
 exact⟨rfl,rfl⟩
theorem rsign_59 {w:World} {v:Value} {L:List Rn} (h:RR w v L) (i:Nat) (hi:i≤4294967290) (hc0:rAt L i=59) :
 Calls Tryz.prog 67 #[v,.int .i64 i] w fun e w'=>e=.returned (.int .i64 1)∧w=w':=by
 have HR:=Lh h;clear h
 have HC:=Lh hc0;clear hc0
 go_enter Tryz.func67,Tryz.ntmps67
 go_wp2_with fail
 refine(rat_any HR.out _ (by omega) (by omega)).mono ?_
 rintro e w' ⟨rfl,rfl⟩
 rw[Int.toNat_natCast,HC.out]
 go_wp2_with fail
 go_ret
 exact⟨rfl,rfl⟩
theorem rsign_no {w:World} {v:Value} {L:List Rn} (h:RR w v L) (i:Nat) (hi:i≤4294967290) (hn:∀ k ∈ [60,62,33,61,40,41,91,93,44,59],rAt L i≠k) :
 Calls Tryz.prog 67 #[v,.int .i64 i] w fun e w'=>e=.returned (.int .i64 0)∧w=w':=by
 have HR:=Lh h;clear h
 obtain⟨c,hc⟩:∃ c,c=rAt L i:=⟨_,rfl⟩
 rw[←hc] at hn
 have HC:=Lh hc;clear hc
 have n60: (c == 60)=false:=beq_eq_false_iff_ne.2 (hn 60 (by simp))
 have n62: (c == 62)=false:=beq_eq_false_iff_ne.2 (hn 62 (by simp))
 have n33: (c == 33)=false:=beq_eq_false_iff_ne.2 (hn 33 (by simp))
 have n61: (c == 61)=false:=beq_eq_false_iff_ne.2 (hn 61 (by simp))
 have n40: (c == 40)=false:=beq_eq_false_iff_ne.2 (hn 40 (by simp))
 have n41: (c == 41)=false:=beq_eq_false_iff_ne.2 (hn 41 (by simp))
 have n91: (c == 91)=false:=beq_eq_false_iff_ne.2 (hn 91 (by simp))
 have n93: (c == 93)=false:=beq_eq_false_iff_ne.2 (hn 93 (by simp))
 have n44: (c == 44)=false:=beq_eq_false_iff_ne.2 (hn 44 (by simp))
 have n59: (c == 59)=false:=beq_eq_false_iff_ne.2 (hn 59 (by simp))
 clear hn
 go_enter Tryz.func67,Tryz.ntmps67
 go_wp2_with fail
 refine(rat_any HR.out _ (by omega) (by omega)).mono ?_
 rintro e w' ⟨rfl,rfl⟩
 rw[Int.toNat_natCast,←HC.out]
 go_wp2_with fail
 go_ret
 exact⟨rfl,rfl⟩
theorem rsign_any {w:World} {v:Value} {L:List Rn} (h:RR w v L) (i:Nat) (hi:i≤4294967290) :
 Calls Tryz.prog 67 #[v,.int .i64 i] w fun e w'=>e=.returned (.int .i64 (signN (rAt L i) (rAt L (i+1)):Nat))∧w=w':=by
 by_cases h60:rAt L i=60
 · by_cases hd:rAt L (i+1)=61
   · have e:signN (rAt L i) (rAt L (i+1))=2:=by unfold signN;simp[h60,hd]
     rw[e];exact rsign_60t h i hi h60 hd
   · have e:signN (rAt L i) (rAt L (i+1))=1:=by unfold signN;simp[h60,hd]
     rw[e];exact rsign_60f h i hi h60 (beq_eq_false_iff_ne.2 hd)
 by_cases h62:rAt L i=62
 · by_cases hd:rAt L (i+1)=61
   · have e:signN (rAt L i) (rAt L (i+1))=2:=by unfold signN;simp[h62,hd]
     rw[e];exact rsign_62t h i hi h62 hd
   · have e:signN (rAt L i) (rAt L (i+1))=1:=by unfold signN;simp[h62,hd]
     rw[e];exact rsign_62f h i hi h62 (beq_eq_false_iff_ne.2 hd)
 by_cases h33:rAt L i=33
 · by_cases hd:rAt L (i+1)=61
   · have e:signN (rAt L i) (rAt L (i+1))=2:=by unfold signN;simp[h33,hd]
     rw[e];exact rsign_33t h i hi h33 hd
   · have e:signN (rAt L i) (rAt L (i+1))=0:=by unfold signN;simp[h33,hd]
     rw[e];exact rsign_33f h i hi h33 (beq_eq_false_iff_ne.2 hd)
 by_cases h61:rAt L i=61
 · have e:signN (rAt L i) (rAt L (i+1))=1:=by unfold signN;simp[h61]
   rw[e];exact rsign_61 h i hi h61
 by_cases h40:rAt L i=40
 · have e:signN (rAt L i) (rAt L (i+1))=1:=by unfold signN;simp[h40]
   rw[e];exact rsign_40 h i hi h40
 by_cases h41:rAt L i=41
 · have e:signN (rAt L i) (rAt L (i+1))=1:=by unfold signN;simp[h41]
   rw[e];exact rsign_41 h i hi h41
 by_cases h91:rAt L i=91
 · have e:signN (rAt L i) (rAt L (i+1))=1:=by unfold signN;simp[h91]
   rw[e];exact rsign_91 h i hi h91
 by_cases h93:rAt L i=93
 · have e:signN (rAt L i) (rAt L (i+1))=1:=by unfold signN;simp[h93]
   rw[e];exact rsign_93 h i hi h93
 by_cases h44:rAt L i=44
 · have e:signN (rAt L i) (rAt L (i+1))=1:=by unfold signN;simp[h44]
   rw[e];exact rsign_44 h i hi h44
 by_cases h59:rAt L i=59
 · have e:signN (rAt L i) (rAt L (i+1))=1:=by unfold signN;simp[h59]
   rw[e];exact rsign_59 h i hi h59
 have e:signN (rAt L i) (rAt L (i+1))=0:=by unfold signN;simp[h60,h62,h33,h61,h40,h41,h91,h93,h44,h59]
 rw[e]
 exact rsign_no h i hi (by intro k hk;simp at hk;rcases hk with rfl|rfl|rfl|rfl|rfl|rfl|rfl|rfl|rfl|rfl <;> assumption)
def hasGreatB (s:ByteArray):Bool:=s.data.toList.any fun b=>greatB (b.toNat:Int)
theorem rhasGreat_any (s:ByteArray) (w:World) (hs:s.size≤4294967296) :
 Calls Tryz.prog 69 #[.string s] w fun e w'=>e=.returned (.bool (hasGreatB s))∧w=w':=by
 go_enter Tryz.func69,Tryz.ntmps69
 go_wp2
 go_loop [3] (fun i=>∃ k:Nat,k≤s.size∧i=.int .i64 k∧Hid ((s.data.toList.take k).any (fun b=>greatB (b.toNat:Int))=false)) (fun i=>s.size - (intOf i).toNat)
 case atStart=>exact⟨0,Nat.zero_le _,rfl,rfl⟩
 case round=>
  obtain⟨k,hk,rfl,HE⟩:=hrel
  by_cases hlt:k < s.size
  · obtain⟨c,hc⟩:∃ c,(s[k]'hlt).toNat=c:=⟨_,rfl⟩
    have hc255:c < 256:=by rw[←hc];exact(s[k]'hlt).toNat_lt
    have hsn: (s.data.toList.take (k+1)).any (fun b=>greatB (b.toNat:Int))=greatB (c:Int):=by
     have e1:s.data.toList.take (k+1)=s.data.toList.take k ++ [s[k]'hlt]:=by rw[List.take_succ_eq_append_getElem (by simpa using hlt)];rfl
     rw[e1,List.any_append,HE.out];simp[hc]
    have hyes:greatB (c:Int)=true→hasGreatB s=true:=by
     intro hg
     rw[hg] at hsn
     unfold hasGreatB
     obtain⟨x,hx,hp⟩:=List.any_eq_true.1 hsn
     exact List.any_eq_true.2 ⟨x,List.mem_of_mem_take hx,hp⟩
    cases hg:greatB (c:Int)
    · rw[hg] at hsn
      have HS:=Lh hsn
      have HG:=Lh hg
      clear hsn hyes hg
      go_wp2_with (go_at_call 63;refine(rgreatB_any _ _).mono ?_;rintro e w' ⟨rfl,rfl⟩;rw[HG.out])
      go_round
      case rel=>exact⟨k+1,by omega,by go_num,HS⟩
      case measure=>simp[intOf];omega
    · have HY:=Lh (hyes hg)
      have HG:=Lh hg
      clear hsn hyes hg
      go_wp2_with (go_at_call 63;refine(rgreatB_any _ _).mono ?_;rintro e w' ⟨rfl,rfl⟩;rw[HG.out])
      go_ret
      exact⟨ret_bool HY.out.symm,rfl⟩
  · have HF:Hid (hasGreatB s=false):=by
     have:=HE.out
     rw[List.take_of_length_le (by simp;omega)] at this
     exact this
    go_wp2
    go_ret
    exact⟨ret_bool HF.out.symm,rfl⟩
def stepV (n:Nat) (b:UInt8):Nat:=if b.toNat=45 then n else n * 10+ (b.toNat - 48)
def numV (l:List UInt8):Nat:=l.foldl stepV 0
theorem numV_snoc (l:List UInt8) (b:UInt8):numV (l ++ [b])=stepV (numV l) b:=by simp[numV]
theorem stepV_ge (n:Nat) (b:UInt8):n≤stepV n b:=by unfold stepV;split <;> omega
theorem foldV_ge (l:List UInt8) (n:Nat):n≤l.foldl stepV n:=by
 induction l generalizing n with
 | nil=>exact Nat.le_refl _
 | cons b t ih=>exact Nat.le_trans (stepV_ge n b) (ih _)
theorem numV_take (l:List UInt8) (k:Nat):numV (l.take k)≤numV l:=by
 have h:numV l= (l.drop k).foldl stepV (numV (l.take k)):=by
  unfold numV
  rw[←List.foldl_append,List.take_append_drop]
 rw[h];exact foldV_ge _ _
theorem numV_next (s:ByteArray) (k:Nat) (h:k < s.size):numV (s.data.toList.take (k+1))=stepV (numV (s.data.toList.take k)) (s[k]'h):=by
 have e1:s.data.toList.take (k+1)=s.data.toList.take k ++ [s[k]'h]:=by rw[List.take_succ_eq_append_getElem (by simpa using h)];rfl
 rw[e1,numV_snoc]
def NumT (s:ByteArray):Prop:=∀ (k:Nat) (h:k < s.size),(s[k]'h).toNat=45∨(48≤(s[k]'h).toNat∧(s[k]'h).toNat≤57)
def valN (s:ByteArray) (below:Bool):Int × Bool:=
 if below then(if numV s.data.toList≤9223372036854775808 then(-(numV s.data.toList:Int),true) else(0,false))
 else(if numV s.data.toList≤9223372036854775807 then((numV s.data.toList:Int),true) else(0,false))
theorem ret_val {a c:Int} {b d:Bool} (h1:a=c) (h2:b=d):Ending.returned (.tuple #[.int .i64 a,.bool b])=.returned (.tuple #[.int .i64 c,.bool d]):=by rw[h1,h2]
theorem rvalue_pos (s:ByteArray) (w:World) (hs:s.size≤4294967296) (h0:0 < s.size) (hn:NumT s) (hb: (s[0]'h0).toNat≠45) :
 Calls Tryz.prog 70 #[.string s] w fun e w'=>e=.returned (.tuple #[.int .i64 (valN s false).1,.bool (valN s false).2])∧w=w':=by
 obtain⟨c0,hc0⟩:∃ c,(s[0]'h0).toNat=c:=⟨_,rfl⟩
 have hcb: ((c0:Int) == 45)=false:=beq_eq_false_iff_ne.2 (by omega)
 have HN:=Lh hn
 clear hn hb
 go_enter Tryz.func70,Tryz.ntmps70
 go_wp2
 go_loop [5,6,7] (fun n i _=>∃ (k m:Nat),k≤s.size∧i=.int .i64 k∧n=.int .i64 m∧m≤9223372036854775807∧Hid (numV (s.data.toList.take k)=m)) (fun _ i _=>s.size - (intOf i).toNat)
 case atStart=>exact⟨0,0,Nat.zero_le _,rfl,rfl,by omega,rfl⟩
 case round=>
  obtain⟨k,m,hk,rfl,rfl,hm,HE⟩:=hrel
  by_cases hlt:k < s.size
  · obtain⟨c,hc⟩:∃ c,(s[k]'hlt).toNat=c:=⟨_,rfl⟩
    have hstep:numV (s.data.toList.take (k+1))=if c=45 then m else m * 10+ (c - 48):=by
     rw[numV_next s k hlt,HE.out];unfold stepV;rw[hc]
    have hd:c=45∨(48≤c∧c≤57):=by rw[←hc];exact HN.out k hlt
    by_cases hc45:c=45
    · subst hc45
      have HS:=Lh hstep;clear hstep
      go_wp2
      go_round
      case rel=>exact⟨k+1,m,by omega,by go_num,rfl,hm,Lh (by simpa using HS.out)⟩
      case measure=>simp[intOf];omega
    · have hcf: ((c:Int) == 45)=false:=beq_eq_false_iff_ne.2 (by omega)
      rw[if_neg hc45] at hstep
      obtain⟨hd1,hd2⟩:48≤c∧c≤57:=by omega
      rcases Nat.lt_trichotomy m 922337203685477580 with hmk|hmk|hmk
      · have HS:=Lh hstep;clear hstep
        have hm1: ((m:Int) == 922337203685477580)=false:=beq_eq_false_iff_ne.2 (by omega)
        go_wp2
        go_round
        case rel=>exact⟨k+1,m * 10+ (c - 48),by omega,by go_num,by go_num,by omega,HS⟩
        case measure=>simp[intOf];omega
      · subst hmk
        by_cases hc7:c≤55
        · have HS:=Lh hstep;clear hstep
          go_wp2
          go_round
          case rel=>exact⟨k+1,922337203685477580 * 10+ (c - 48),by omega,by go_num,by go_num,by omega,HS⟩
          case measure=>simp[intOf];omega
        · have HF:Hid (valN s false= (0,false)):=by
           refine Lh ?_
           have:=numV_take s.data.toList (k+1)
           unfold valN
           rw[if_neg (by simp),if_neg (by omega)]
          clear hstep
          go_wp2
          go_ret2
          exact⟨ret_val (by rw[HF.out]) (by rw[HF.out]),rfl⟩
      · have HF:Hid (valN s false= (0,false)):=by
         refine Lh ?_
         have:=numV_take s.data.toList (k+1)
         unfold valN
         rw[if_neg (by simp),if_neg (by omega)]
        clear hstep
        go_wp2
        go_ret2
        exact⟨ret_val (by rw[HF.out]) (by rw[HF.out]),rfl⟩
  · have HF:Hid (valN s false= ((m:Int),true)):=by
     refine Lh ?_
     have:=HE.out
     rw[List.take_of_length_le (by simp;omega)] at this
     unfold valN
     rw[if_neg (by simp),this,if_pos (by omega)]
    go_wp2
    go_ret2
    exact⟨ret_val (by rw[HF.out]) (by rw[HF.out]),rfl⟩
theorem rvalue_neg (s:ByteArray) (w:World) (hs:s.size≤4294967296) (h0:0 < s.size) (hn:NumT s) (hb: (s[0]'h0).toNat=45) :
 Calls Tryz.prog 70 #[.string s] w fun e w'=>e=.returned (.tuple #[.int .i64 (valN s true).1,.bool (valN s true).2])∧w=w':=by
 obtain⟨c0,hc0⟩:∃ c,(s[0]'h0).toNat=c:=⟨_,rfl⟩
 have hcb: ((c0:Int) == 45)=true:=by rw[beq_iff_eq];omega
 have HN:=Lh hn
 clear hn hb
 go_enter Tryz.func70,Tryz.ntmps70
 go_wp2
 go_loop [5,6,7] (fun n i _=>∃ (k m:Nat),k≤s.size∧i=.int .i64 k∧n=.int .i64 (-(m:Int))∧m≤9223372036854775808∧Hid (numV (s.data.toList.take k)=m)) (fun _ i _=>s.size - (intOf i).toNat)
 case atStart=>exact⟨0,0,Nat.zero_le _,rfl,rfl,by omega,rfl⟩
 case round=>
  obtain⟨k,m,hk,rfl,rfl,hm,HE⟩:=hrel
  by_cases hlt:k < s.size
  · obtain⟨c,hc⟩:∃ c,(s[k]'hlt).toNat=c:=⟨_,rfl⟩
    have hstep:numV (s.data.toList.take (k+1))=if c=45 then m else m * 10+ (c - 48):=by
     rw[numV_next s k hlt,HE.out];unfold stepV;rw[hc]
    have hd:c=45∨(48≤c∧c≤57):=by rw[←hc];exact HN.out k hlt
    by_cases hc45:c=45
    · subst hc45
      have HS:=Lh hstep;clear hstep
      go_wp2
      go_round
      case rel=>exact⟨k+1,m,by omega,by go_num,rfl,hm,Lh (by simpa using HS.out)⟩
      case measure=>simp[intOf];omega
    · have hcf: ((c:Int) == 45)=false:=beq_eq_false_iff_ne.2 (by omega)
      rw[if_neg hc45] at hstep
      obtain⟨hd1,hd2⟩:48≤c∧c≤57:=by omega
      rcases Nat.lt_trichotomy m 922337203685477580 with hmk|hmk|hmk
      · have HS:=Lh hstep;clear hstep
        have hm1: ((-(m:Int)) == -922337203685477580)=false:=beq_eq_false_iff_ne.2 (by omega)
        go_wp2
        go_round
        case rel=>exact⟨k+1,m * 10+ (c - 48),by omega,by go_num,by go_num,by omega,HS⟩
        case measure=>simp[intOf];omega
      · subst hmk
        by_cases hc7:c≤56
        · have HS:=Lh hstep;clear hstep
          go_wp2
          go_round
          case rel=>exact⟨k+1,922337203685477580 * 10+ (c - 48),by omega,by go_num,by go_num,by omega,HS⟩
          case measure=>simp[intOf];omega
        · have HF:Hid (valN s true= (0,false)):=by
           refine Lh ?_
           have:=numV_take s.data.toList (k+1)
           unfold valN
           rw[if_pos rfl,if_neg (by omega)]
          clear hstep
          go_wp2
          go_ret2
          exact⟨ret_val (by rw[HF.out]) (by rw[HF.out]),rfl⟩
      · have HF:Hid (valN s true= (0,false)):=by
         refine Lh ?_
         have:=numV_take s.data.toList (k+1)
         unfold valN
         rw[if_pos rfl,if_neg (by omega)]
        clear hstep
        go_wp2
        go_ret2
        exact⟨ret_val (by rw[HF.out]) (by rw[HF.out]),rfl⟩
  · have HF:Hid (valN s true= (-(m:Int),true)):=by
     refine Lh ?_
     have:=HE.out
     rw[List.take_of_length_le (by simp;omega)] at this
     unfold valN
     rw[if_pos rfl,this,if_pos (by omega)]
    go_wp2
    go_ret2
    exact⟨ret_val (by rw[HF.out]) (by rw[HF.out]),rfl⟩
theorem rvalue_any (s:ByteArray) (w:World) (hs:s.size≤4294967296) (h0:0 < s.size) (hn:NumT s) :
 Calls Tryz.prog 70 #[.string s] w fun e w'=>e=.returned (.tuple #[.int .i64 (valN s (decide ((s[0]'h0).toNat=45))).1,.bool (valN s (decide ((s[0]'h0).toNat=45))).2])∧w=w':=by
 by_cases hb: (s[0]'h0).toNat=45
 · rw[decide_eq_true hb];exact rvalue_neg s w hs h0 hn hb
 · rw[decide_eq_false hb];exact rvalue_pos s w hs h0 hn hb
def wordsB:List ByteArray:=
 [{ data:=#[97,116,116,114] },
  { data:=#[117,115,101,114] },
  { data:=#[114,111,108,101] },
  { data:=#[115,116,97,103,101] },
  { data:=#[105,110] },
  { data:=#[101,118,101,110,116] },
  { data:=#[98,121] },
  { data:=#[115,101,116,115] },
  { data:=#[109,97,120] },
  { data:=#[111,110] },
  { data:=#[105,102] },
  { data:=#[103,117,97,114,100] },
  { data:=#[109,105,108,101,115,116,111,110,101] },
  { data:=#[111,102] },
  { data:=#[102,105,110,97,108] },
  { data:=#[115,111,100] },
  { data:=#[97,110,100] },
  { data:=#[111,114] },
  { data:=#[110,111,116] },
  { data:=#[105,109,112,108,105,101,115] },
  { data:=#[111,112,101,110] },
  { data:=#[100,111,110,101] },
  { data:=#[99,97,110] },
  { data:=#[100,105,100] },
  { data:=#[99,111,109,112,108,101,116,101] },
  { data:=#[115,116,117,99,107] },
  { data:=#[116,114,117,101] },
  { data:=#[102,97,108,115,101] },
  { data:=#[105,100,108,101] },
  { data:=#[108,111,111,112] },
  { data:=#[65,88] },
  { data:=#[69,88] },
  { data:=#[65,70] },
  { data:=#[69,70] },
  { data:=#[65,71] },
  { data:=#[69,71] },
  { data:=#[65] },
  { data:=#[69] },
  { data:=#[85] }]
def knownB (s:ByteArray):Bool:=wordsB.any (fun x=>decide (x=s))
theorem cells_lit (w:World) (us:Array Value) (e:TypeId) (t:Nat) (x:Value) (h:us.toList[t]?=some x): (w.alloc (.cells us e)).cell? ⟨w.heap.size,0+t,none⟩ = some x:=by
 rw[World.cell?_alloc_at _ _ _ _ rfl,Nat.zero_add]
 simpa using h
theorem beq_bytes (x s:ByteArray): (x.toList == s.toList)=decide (x=s):=by
 rw[ByteArray.toList_eq,ByteArray.toList_eq,Bool.eq_iff_iff,beq_iff_eq,decide_eq_true_iff]
 constructor
 · intro h
   exact ByteArray.ext (Array.ext' h)
 · rintro rfl
   rfl
theorem words_len:wordsB.length=39:=rfl
theorem rwords_any (w:World) :
 Calls Tryz.prog 88 #[] w fun e w'=>e=.returned (.slice (some ⟨w.heap.size,0,none⟩) 39 39)∧(∀ t x,(wordsB.map Value.string)[t]?=some x→w'.cell? ⟨w.heap.size,0+t,none⟩ = some x)∧Below w.heap.size w w':=by
 go_enter Tryz.func88,Tryz.ntmps88
 go_wp2_with fail
 go_ret
 exact⟨rfl,fun t x hx=>cells_lit _ _ _ t x hx,(Below.refl _ _).alloc (Nat.le_refl _) _⟩
theorem rknown_any (s:ByteArray) (w:World) :
 Calls Tryz.prog 68 #[.string s] w fun e w'=>e=.returned (.bool (knownB s))∧Below w.heap.size w w':=by
 go_enter Tryz.func68,Tryz.ntmps68
 go_wp2_with fail
 refine(rwords_any _).mono ?_
 rintro e w1 ⟨rfl,hc,hb⟩
 have HC:=Lh hc
 have HB:=Lh hb
 clear hc hb
 go_wp2
 go_loop [4] (fun i=>∃ k:Nat,k≤39∧i=.int .i64 k∧Hid ((wordsB.take k).any (fun x=>decide (x=s))=false)) (fun i=>39 - (intOf i).toNat)
 case atStart=>exact⟨0,Nat.zero_le _,rfl,rfl⟩
 case round=>
  obtain⟨k,hk,rfl,HE⟩:=hrel
  by_cases hlt:k < 39
  · obtain⟨x,hx⟩:∃ x,wordsB[k]?=some x:=⟨_,List.getElem?_eq_getElem (by rw[words_len];exact hlt)⟩
    have hcell:w1.cell? ⟨w.heap.size,k,none⟩ = some (.string x):=by rw[←HC.out k _ (by rw[List.getElem?_map,hx];rfl),Nat.zero_add]
    have hsn: (wordsB.take (k+1)).any (fun x=>decide (x=s))=decide (x=s):=by
     rw[List.take_add_one,hx,List.any_append,HE.out];simp
    have hyes:decide (x=s)=true→knownB s=true:=by
     intro hg
     rw[hg] at hsn
     unfold knownB
     obtain⟨y,hy,hp⟩:=List.any_eq_true.1 hsn
     exact List.any_eq_true.2 ⟨y,List.mem_of_mem_take hy,hp⟩
    clear hx
    cases hg:decide (x=s)
    · rw[hg] at hsn
      have hl: (x.toList == s.toList)=false:=by rw[beq_bytes];exact hg
      have HS:=Lh hsn
      clear hsn hyes
      go_wp2
      go_round
      case rel=>exact⟨k+1,by omega,by go_num,HS⟩
      case measure=>simp[intOf];omega
    · have hl: (x.toList == s.toList)=true:=by rw[beq_bytes];exact hg
      have HY:=Lh (hyes hg)
      clear hsn hyes
      go_wp2
      go_ret
      exact⟨ret_bool HY.out.symm,HB.out⟩
  · obtain rfl:k=39:=by omega
    have HF:Hid (knownB s=false):=Lh (by have:=HE.out;rwa [List.take_of_length_le (by rw[words_len];exact Nat.le_refl _)] at this)
    go_wp2
    go_ret
    exact⟨ret_bool HF.out.symm,HB.out⟩
theorem bytes_cons (s:ByteArray) (h0:0 < s.size):s.data.toList=s[0]'h0 :: s.data.toList.drop 1:=by
 have h:0 < s.data.toList.length:=by simpa using h0
 rw[List.drop_one]
 exact(List.cons_head_tail (List.ne_nil_of_length_pos h)).symm.trans (by rw[List.head_eq_getElem];rfl)
theorem dash_is (s:ByteArray) (h0:0 < s.size): ((s.extract 0 1).toList == [45])=decide ((s[0]'h0).toNat=45):=by
 rw[show([45]:List UInt8)= (⟨#[45]⟩:ByteArray).toList by rw[ByteArray.toList_eq],beq_bytes,Bool.eq_iff_iff,decide_eq_true_iff,decide_eq_true_iff]
 have h1: (s.extract 0 1).data.toList= [s[0]'h0]:=by rw[Lib.extract_data,List.drop_zero,bytes_cons s h0];rfl
 constructor
 · intro h
   have: [s[0]'h0]= [45]:=by rw[←h1,h]
   rw[List.cons.inj this |>.1];rfl
 · intro h
   refine ByteArray.ext (Array.ext' ?_)
   rw[h1]
   have:s[0]'h0=45:=UInt8.toNat_inj.1 h
   rw[this]
theorem dash_any (s:ByteArray) (h0:0 < s.size) (w:World) (hs:s.size≤4294967296) :
 Calls Tryz.prog 133 #[.string s,.string ⟨#[45]⟩] w fun e w'=>e=.returned (.bool (decide ((s[0]'h0).toNat=45)))∧w=w':=by
 have HD:=Lh (dash_is s h0)
 go_enter Tryz.func133,Tryz.ntmps133
 go_wp2
 go_ret
 exact⟨ret_bool HD.out,rfl⟩
def noDash (s:ByteArray) (below:Bool):ByteArray:=if below then s.extract 1 s.size else s
theorem trimS_any (s:ByteArray) (h0:0 < s.size) (w:World) (hs:s.size≤4294967296) :
 Calls Tryz.prog 117 #[.string s,.string ⟨#[45]⟩] w fun e w'=>e=.returned (.string (noDash s (decide ((s[0]'h0).toNat=45))))∧w=w':=by
 cases hb:decide ((s[0]'h0).toNat=45)
 · go_enter Tryz.func117,Tryz.ntmps117
   go_wp2_with fail
   refine(dash_any s h0 _ hs).mono ?_
   rintro e w' ⟨rfl,rfl⟩
   rw[hb]
   go_wp2
   go_ret
   exact⟨rfl,rfl⟩
 · go_enter Tryz.func117,Tryz.ntmps117
   go_wp2_with fail
   refine(dash_any s h0 _ hs).mono ?_
   rintro e w' ⟨rfl,rfl⟩
   rw[hb]
   go_wp2
   go_ret
   exact⟨rfl,rfl⟩
theorem trim_any (s:ByteArray) (h0:0 < s.size) (w:World) (hs:s.size≤4294967296) :
 Calls Tryz.prog 100 #[.string s,.string ⟨#[45]⟩] w fun e w'=>e=.returned (.string (noDash s (decide ((s[0]'h0).toNat=45))))∧w=w':=by
 go_enter Tryz.func100,Tryz.ntmps100
 go_wp2_with fail
 refine(trimS_any s h0 _ hs).mono ?_
 rintro e w' ⟨rfl,rfl⟩
 go_wp2
 go_ret
 exact⟨rfl,rfl⟩
end Go.Proofs.YthlofmnmacpogaaGreatDoor
