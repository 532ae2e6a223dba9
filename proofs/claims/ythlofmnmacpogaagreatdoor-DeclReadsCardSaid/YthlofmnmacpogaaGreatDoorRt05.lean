/- A part of a proof of DeclReadsProof. -/
import Derived.Test.YthlofmnmacpogaaGreatDoorRt01
import Derived.Test.YthlofmnmacpogaaGreatDoorRt04
set_option maxRecDepth 100000
set_option maxHeartbeats 40000000
namespace Go.Proofs.YthlofmnmacpogaaGreatDoor
open Go.RowKit
def byteAt (s:ByteArray) (i:Nat):Nat:=(s.get! i).toNat
theorem byteAt_lt (s:ByteArray) (i:Nat):byteAt s i < 256:=(s.get! i).toNat_lt
theorem byteAt_get (s:ByteArray) (i:Nat) (h:i < s.size):byteAt s i= (s[i]'h).toNat:=by
 unfold byteAt
 have:=get_at s i h
 rw[Nat.add_zero] at this
 rw[this]
def tailB (s:ByteArray) (i least most:Nat):Bool:=decide (i < s.size) && (decide (least≤byteAt s i) && decide (byteAt s i≤most))
def firstRef (s:ByteArray) (i:Nat):Int × Nat:=
 let c:=byteAt s i
 if c < 128 then(c,1) else
 if 194≤c∧c≤223∧tailB s (i+1) 128 191 then(((c % 32 * 64+byteAt s (i+1) % 64:Nat):Int),2) else
 let least:=if c=240 then 144 else if c=224 then 160 else 128
 let most:=if c=244 then 143 else if c=237 then 159 else 191
 if tailB s (i+1) least most=false∨tailB s (i+2) 128 191=false then(-1,1) else
 if 224≤c∧c≤239 then(((c % 16 * 4096+byteAt s (i+1) % 64 * 64+byteAt s (i+2) % 64:Nat):Int),3) else
 if 240≤c∧c≤244∧tailB s (i+3) 128 191 then(((c % 8 * 262144+byteAt s (i+1) % 64 * 4096+byteAt s (i+2) % 64 * 64+byteAt s (i+3) % 64:Nat):Int),4) else
 (-1,1)
def decP (c d e f:Nat) (p1 p2 p3:Bool):Nat × Nat:=
 if c < 128 then(c,1)
 else if c / 32=6∧p1=true∧d / 64=2 then
  if 128≤c % 32 * 64+d % 64 then(c % 32 * 64+d % 64,2) else(65533,1)
 else if c / 16=14∧p1=true∧d / 64=2∧p2=true∧e / 64=2 then
  if 2048≤c % 16 * 4096+d % 64 * 64+e % 64∧(c % 16 * 4096+d % 64 * 64+e % 64 < 55296∨(57344≤c % 16 * 4096+d % 64 * 64+e % 64∧c % 16 * 4096+d % 64 * 64+e % 64≤1114111)) then(c % 16 * 4096+d % 64 * 64+e % 64,3) else(65533,1)
 else if c / 8=30∧p1=true∧d / 64=2∧p2=true∧e / 64=2∧p3=true∧f / 64=2 then
  if 65536≤c % 8 * 262144+d % 64 * 4096+e % 64 * 64+f % 64∧(c % 8 * 262144+d % 64 * 4096+e % 64 * 64+f % 64 < 55296∨(57344≤c % 8 * 262144+d % 64 * 4096+e % 64 * 64+f % 64∧c % 8 * 262144+d % 64 * 4096+e % 64 * 64+f % 64≤1114111)) then(c % 8 * 262144+d % 64 * 4096+e % 64 * 64+f % 64,4) else(65533,1)
 else(65533,1)
theorem dec_is (s:ByteArray) (i:Nat):Utf8.decode s i=decP (byteAt s i) (byteAt s (i+1)) (byteAt s (i+2)) (byteAt s (i+3)) (decide (i+1 < s.size)) (decide (i+2 < s.size)) (decide (i+3 < s.size)):=by
 unfold Utf8.decode decP Utf8.valid Utf8.runeError
 simp only[show ∀ k,(s.get! k).toNat=byteAt s k from fun _=>rfl,Nat.add_zero,Bool.and_eq_true,beq_iff_eq,decide_eq_true_eq,Bool.or_eq_true,ge_iff_le,and_assoc]
 have z:∀ n:Nat,(0:Int)≤n:=fun n=>by omega
 have z1:∀ n:Nat,((n:Int) < 55296)= (n < 55296):=fun n=>propext ⟨fun h=>by omega,fun h=>by omega⟩
 have z2:∀ n:Nat,((57344:Int)≤n)= (57344≤n):=fun n=>propext ⟨fun h=>by omega,fun h=>by omega⟩
 have z3:∀ n:Nat,((n:Int)≤1114111)= (n≤1114111):=fun n=>propext ⟨fun h=>by omega,fun h=>by omega⟩
 simp only[z,true_and,z1,z2,z3]
theorem first_is (s:ByteArray) (i:Nat):firstRef s i= (decR s i,decN s i):=by
 have b0:=byteAt_lt s i
 have b1:=byteAt_lt s (i+1)
 have b2:=byteAt_lt s (i+2)
 have b3:=byteAt_lt s (i+3)
 unfold firstRef decR decN tailB
 rw[dec_is]
 generalize byteAt s i=c at *
 generalize byteAt s (i+1)=d at *
 generalize byteAt s (i+2)=e at *
 generalize byteAt s (i+3)=f at *
 generalize decide (i+1 < s.size)=p1
 generalize decide (i+2 < s.size)=p2
 generalize decide (i+3 < s.size)=p3
 have dd:d / 64=2 ↔ (128≤d∧d≤191):=by omega
 have de:e / 64=2 ↔ (128≤e∧e≤191):=by omega
 have df:f / 64=2 ↔ (128≤f∧f≤191):=by omega
 unfold decP
 simp only[dd,de,df]
 clear dd de df
 rcases(show c < 128∨(128≤c∧c < 192)∨(192≤c∧c < 194)∨(194≤c∧c≤223)∨c=224∨(225≤c∧c≤236)∨c=237∨(238≤c∧c≤239)∨c=240∨(241≤c∧c≤243)∨c=244∨(245≤c∧c≤247)∨248≤c by omega) with h|h|h|h|h|h|h|h|h|h|h|h|h
 · simp[h];omega
 all_goals
  have q0:¬c < 128:=by omega
  first| (have q1:c / 32=6:=by omega)| (have q1:¬c / 32=6:=by omega)
  first| (have q2:c / 16=14:=by omega)| (have q2:¬c / 16=14:=by omega)
  first| (have q3:c / 8=30:=by omega)| (have q3:¬c / 8=30:=by omega)
  first| (have q4:194≤c:=by omega)| (have q4:¬194≤c:=by omega)
  first| (have q5:c≤223:=by omega)| (have q5:¬c≤223:=by omega)
  first| (have q6:c=240:=by omega)| (have q6:¬c=240:=by omega)
  first| (have q7:c=224:=by omega)| (have q7:¬c=224:=by omega)
  first| (have q8:c=244:=by omega)| (have q8:¬c=244:=by omega)
  first| (have q9:c=237:=by omega)| (have q9:¬c=237:=by omega)
  first| (have qa:224≤c:=by omega)| (have qa:¬224≤c:=by omega)
  first| (have qb:c≤239:=by omega)| (have qb:¬c≤239:=by omega)
  first| (have qc:240≤c:=by omega)| (have qc:¬240≤c:=by omega)
  first| (have qd:c≤244:=by omega)| (have qd:¬c≤244:=by omega)
  simp only[q0,q1,q2,q3,q4,q5,q6,q7,q8,q9,qa,qb,qc,qd,if_false,if_true,true_and,and_true,false_and,and_false]
  clear q0 q1 q2 q3 q4 q5 q6 q7 q8 q9 qa qb qc qd
 all_goals
  by_cases hd1:128≤d <;> by_cases hd2:d≤191 <;> by_cases he1:128≤e <;> by_cases he2:e≤191 <;> cases p1 <;> cases p2 <;> simp only[hd1,hd2,he1,he2,if_false,true_and,and_true,false_and,and_false,decide_true,decide_false,Bool.and_true,Bool.and_false,Bool.true_and,Bool.false_and,true_or,or_true,reduceCtorEq,Bool.false_eq_true,or_self,if_pos]
 all_goals (repeat' split)
 all_goals first
  | (exfalso;omega)
  | (refine Prod.ext ?_ ?_ <;> (dsimp only;omega))
  | (simp_all;done)
  | (simp_all;omega)
theorem tail_any (s:ByteArray) (k least most:Int) (w:World) (h0:0≤k) (_hs:s.size≤4294967296) (hl:0≤least) (hm:0≤most) :
 Calls Tryz.prog 101 #[.string s,.int .i64 k,.int .i64 least,.int .i64 most] w fun e w'=>e=.returned (.bool (tailB s k.toNat least.toNat most.toNat))∧w=w':=by
 obtain⟨n,rfl⟩:=Int.eq_ofNat_of_zero_le h0
 obtain⟨a,rfl⟩:=Int.eq_ofNat_of_zero_le hl
 obtain⟨b,rfl⟩:=Int.eq_ofNat_of_zero_le hm
 by_cases hn:n < s.size
 · obtain⟨c,hc⟩:∃ c,(s[n]'hn).toNat=c:=⟨_,rfl⟩
   have hlt:=byteAt_lt s n
   rw[byteAt_get s n hn,hc] at hlt
   have HT:Hid (tailB s n a b= (decide (a≤c) && decide (c≤b))):=by unfold Hid tailB;rw[byteAt_get s n hn,hc];simp[hn]
   have hz: (n:Int) < (s.size:Int):=by omega
   by_cases h1:a≤c
   · have h1z: (a:Int)≤(c:Int):=by omega
     go_enter Tryz.func101,Tryz.ntmps101
     go_wp2
     go_ret
     exact⟨ret_bool (by(try simp only[Int.toNat_natCast]);rw[HT.out];simp[h1]),rfl⟩
   · have h1z:¬(a:Int)≤(c:Int):=by omega
     go_enter Tryz.func101,Tryz.ntmps101
     go_wp2
     go_ret
     exact⟨ret_bool (by(try simp only[Int.toNat_natCast]);rw[HT.out];simp[h1]),rfl⟩
 · have HT:Hid (tailB s n a b=false):=by unfold Hid tailB;simp[hn]
   have hz:¬(n:Int) < (s.size:Int):=by omega
   go_enter Tryz.func101,Tryz.ntmps101
   go_wp2
   go_ret
   exact⟨ret_bool (by(try simp only[Int.toNat_natCast]);rw[HT.out]),rfl⟩
theorem low_any (s:ByteArray) (k:Int) (w:World) (h0:0≤k) (hk:k < s.size) :
 Calls Tryz.prog 102 #[.string s,.int .i64 k] w fun e w'=>e=.returned (.int .i64 (byteAt s k.toNat % 64:Nat))∧w=w':=by
 obtain⟨n,rfl⟩:=Int.eq_ofNat_of_zero_le h0
 have hn:n < s.size:=by omega
 obtain⟨c,hc⟩:∃ c,(s[n]'hn).toNat=c:=⟨_,rfl⟩
 have hlt:=byteAt_lt s n
 rw[byteAt_get s n hn,hc] at hlt
 have HT:Hid (byteAt s n=c):=by unfold Hid;rw[byteAt_get s n hn,hc]
 go_enter Tryz.func102,Tryz.ntmps102
 go_wp2
 go_ret
 exact⟨ret_int (by(try simp only[Int.toNat_natCast]);rw[HT.out];simp),rfl⟩
theorem tail_lt {s:ByteArray} {i a b:Nat} (h:tailB s i a b=true):i < s.size:=by
 unfold tailB at h;simp at h;exact h.1
theorem ret_two {a b c d:Int} (h1:a=c) (h2:b=d):Ending.returned (.tuple #[.int .i64 a,.int .i64 b])=.returned (.tuple #[.int .i64 c,.int .i64 d]):=by rw[h1,h2]
theorem rfirst_any (s:ByteArray) (i:Nat) (w:World) (hi:i < s.size) (hs:s.size≤4294967296) :
 Calls Tryz.prog 87 #[.string s,.int .i64 i] w fun e w'=>e=.returned (.tuple #[.int .i64 (decR s i),.int .i64 (decN s i)])∧w=w':=by
 have hd:=first_is s i
 have h1: (firstRef s i).1=decR s i:=by rw[hd]
 have h2: (firstRef s i).2=decN s i:=by rw[hd]
 rw[←h1,←h2]
 clear hd h1 h2
 obtain⟨c,hc⟩:∃ c,(s[i]'hi).toNat=c:=⟨_,rfl⟩
 have hlt:=byteAt_lt s i
 rw[byteAt_get s i hi,hc] at hlt
 rcases(show c < 128∨(128≤c∧c≤193)∨(194≤c∧c≤223)∨(224≤c∧c≤224)∨(225≤c∧c≤236)∨(237≤c∧c≤237)∨(238≤c∧c≤239)∨(240≤c∧c≤240)∨(241≤c∧c≤243)∨(244≤c∧c≤244)∨(245≤c∧c≤255) by omega) with h| ⟨h,h'⟩ | ⟨h,h'⟩ | ⟨h,h'⟩ | ⟨h,h'⟩ | ⟨h,h'⟩ | ⟨h,h'⟩ | ⟨h,h'⟩ | ⟨h,h'⟩ | ⟨h,h'⟩ | ⟨h,h'⟩
 all_goals first
  | (have k:c < 128:=by omega)
  | (have k:c=224:=by omega
     cases b1:tailB s (i+1) 160 191)
  | (have k:c=237:=by omega
     cases b1:tailB s (i+1) 128 159)
  | (have k:c=240:=by omega
     cases b1:tailB s (i+1) 144 191)
  | (have k:c=244:=by omega
     cases b1:tailB s (i+1) 128 143)
  | cases b1:tailB s (i+1) 128 191
 all_goals first
  | (have k:c < 128∨(194≤c∧c≤223):=by omega)
  | (have k:_=true:=b1
     cases b2:tailB s (i+2) 128 191)
  | skip
 all_goals first
  | (have k:240≤c∧c≤244:=by omega
     have k2:_=true:=b1
     have k3:_=true:=b2
     cases b3:tailB s (i+3) 128 191)
  | skip
 all_goals
  (try have l1:=tail_lt b1)
  (try have l2:=tail_lt b2)
  (try have l3:=tail_lt b3)
  (try clear k)
  (try clear k2)
  (try clear k3)
  have hcb:byteAt s i=c:=by rw[byteAt_get s i hi,hc]
  obtain⟨P,hP⟩:∃ P,firstRef s i=P:=⟨_,rfl⟩
  have HF:=Lib.hid hP
  unfold firstRef at hP
  simp only[hcb] at hP
  first| (have q0:c < 128:=by omega)| (have q0:¬c < 128:=by omega)
  first| (have q4:194≤c:=by omega)| (have q4:¬194≤c:=by omega)
  first| (have q5:c≤223:=by omega)| (have q5:¬c≤223:=by omega)
  first| (have q6:c=240:=by omega)| (have q6:¬c=240:=by omega)
  first| (have q7:c=224:=by omega)| (have q7:¬c=224:=by omega)
  first| (have q8:c=244:=by omega)| (have q8:¬c=244:=by omega)
  first| (have q9:c=237:=by omega)| (have q9:¬c=237:=by omega)
  first| (have qa:224≤c:=by omega)| (have qa:¬224≤c:=by omega)
  first| (have qb:c≤239:=by omega)| (have qb:¬c≤239:=by omega)
  first| (have qc:240≤c:=by omega)| (have qc:¬240≤c:=by omega)
  first| (have qd:c≤244:=by omega)| (have qd:¬c≤244:=by omega)
  simp[*] at hP
  subst hP
  clear q0 q4 q5 q6 q7 q8 q9 qa qb qc qd hcb
  have hiz: (i:Int) < (s.size:Int):=by omega
  first| (have z0: (c:Int) < 128:=by omega)| (have z0:¬(c:Int) < 128:=by omega)
  first| (have z4: (194:Int)≤c:=by omega)| (have z4:¬(194:Int)≤c:=by omega)
  first| (have z5: (c:Int)≤223:=by omega)| (have z5:¬(c:Int)≤223:=by omega)
  first| (have z10: (224:Int)≤c:=by omega)| (have z10:¬(224:Int)≤c:=by omega)
  first| (have z11: (c:Int)≤239:=by omega)| (have z11:¬(c:Int)≤239:=by omega)
  first| (have z12: (240:Int)≤c:=by omega)| (have z12:¬(240:Int)≤c:=by omega)
  first| (have z13: (c:Int)≤244:=by omega)| (have z13:¬(c:Int)≤244:=by omega)
  first| (have y0: ((c:Int) == 224)=true:=by rw[beq_iff_eq];omega)| (have y0: ((c:Int) == 224)=false:=by rw[beq_eq_false_iff_ne];omega)
  first| (have y1: ((c:Int) == 237)=true:=by rw[beq_iff_eq];omega)| (have y1: ((c:Int) == 237)=false:=by rw[beq_eq_false_iff_ne];omega)
  first| (have y2: ((c:Int) == 240)=true:=by rw[beq_iff_eq];omega)| (have y2: ((c:Int) == 240)=false:=by rw[beq_eq_false_iff_ne];omega)
  first| (have y3: ((c:Int) == 244)=true:=by rw[beq_iff_eq];omega)| (have y3: ((c:Int) == 244)=false:=by rw[beq_eq_false_iff_ne];omega)
  go_enter Tryz.func87,Tryz.ntmps87
  go_wp2_with (first| (go_at_call 101;refine(tail_any s _ _ _ _ (by omega) hs (by omega) (by omega)).mono ?_;rintro e w' ⟨rfl,rfl⟩)| (go_at_call 102;refine(low_any s _ _ (by omega) (by omega)).mono ?_;rintro e w' ⟨rfl,rfl⟩))
  all_goals first
   | (have hx:tailB s (i+3) 128 191=false:=by assumption
      exact absurd (hx.symm.trans b3) (by decide))
   | (have hx:tailB s (i+3) 128 191=true:=by assumption
      exact absurd (hx.symm.trans b3) (by decide))
   | (go_ret2;exact⟨ret_two (by rw[HF.out] <;> first|rfl| (simp;done)| (simp;omega)) (by rw[HF.out] <;> first|rfl| (simp;done)),rfl⟩)
theorem info_rr: (Tryz.prog.info? 79).map (fun i=>(i.zero,i.size,i.bytes))=some (some (.agg #[.int .i64 0,.int .i64 0,.int .i64 0,.int .i64 0,.int .i64 0]),5,40):=by kernel_rfl
theorem rall_any (s:ByteArray) (w:World) (hs:s.size≤4294967296) :
 Calls Tryz.prog 61 #[.string s] w fun e w'=>∃ v,e=.returned v∧w'.ownsRow w.heap.size 79 5 v (allR s).length (rnFlat .i64 (allR s))∧Below w.heap.size w w':=by
 go_enter Tryz.func61,Tryz.ntmps61
 go_wp2
 go_loopw [3,4,5,6,7,8] (fun v l c p _ _ wr=>∃ (pre:List Rn) (q:Nat) (line col:Int),p=.int .i64 q∧l=.int .i64 line∧c=.int .i64 col∧q≤s.size∧pre.length≤q∧0≤line∧line≤q+1∧0≤col∧col≤q+1∧wr.ownsRow w.heap.size 79 5 v pre.length (rnFlat .i64 pre)∧Below w.heap.size w wr∧Hid (allR s=pre ++restG (decR s) s q line col)) (fun _ _ _ p _ _ _=>s.size - (intOf p).toNat)
 case atStart=>exact⟨[],0,1,1,rfl,rfl,rfl,Nat.zero_le _,by simp,by omega,by omega,by omega,by omega,World.ownsRow_nil _ _ _ _,Below.refl _ _,rfl⟩
 case round=>
  obtain⟨pre,q,line,col,rfl,rfl,rfl,hq,hpl,hl0,hl1,hl2,hl3,hown,hb,HE⟩:=hrel
  have hsz:=hb.size
  by_cases hlt:q < s.size
  · have hdn:=decN_pos s q
    have hdl:=decN_le s q hlt
    have hqz: (q:Int) < (s.size:Int):=by omega
    obtain⟨r,hr⟩:∃ r,r=decR s q:=⟨_,rfl⟩
    obtain⟨d,hd⟩:∃ d,d=decN s q:=⟨_,rfl⟩
    rw[←hd] at hdn hdl
    have HN:Hid (allR s= (pre ++ [⟨r,q,q+d,line,col⟩]) ++restG (decR s) s (q+d) (nextLine r line) (nextCol r col)):=by
     unfold Hid;rw[HE.out,restG_cons _ _ _ _ _ hlt,List.append_assoc,hr,hd];rfl
    have HFS:=Lib.hid (rnFlat_snoc .i64 pre ⟨r,q,q+d,line,col⟩)
    have HRD:=Lib.hid (And.intro hr hd)
    clear hr hd HE
    by_cases h10:r=10
    · have t10: (r == 10)=true:=by simp[h10]
      have HNL:Hid (nextLine r line=line+1∧nextCol r col=1):=by unfold Hid nextLine nextCol;simp[h10]
      clear h10
      go_wp2_with (first| (go_at_call 87;refine(rfirst_any s q _ hlt hs).mono ?_;rintro e w' ⟨rfl,rfl⟩;rw[←HRD.out.1,←HRD.out.2])| (at_builtin;refine app1 wr #[.int .i64 r,.int .i64 q,.int .i64 ((q:Int)+d),.int .i64 line,.int .i64 col] rfl _ _ 75 rfl w.heap.size 79 _ 5 40 Tryz.underlying75 info_rr rfl (by decide) (by decide) _ _ _ rfl (by exact hown) rfl (by simp) rfl (by simp[Value.oneCell']) (by omega) hsz ?_;intro v' w1 hown' hg' hb'))
      go_roundw
      case rel=>exact⟨pre ++ [⟨r,q,q+d,line,col⟩],q+d,line+1,1,by go_num,rfl,rfl,hdl,by simp;omega,by omega,by omega,by omega,by omega,by rw[HFS.out,List.length_append];exact hown',hb.trans hb',by have:=HN.out;rw[HNL.out.1,HNL.out.2] at this;exact this⟩
      case measure=>simp[intOf];omega
    · have t10: (r == 10)=false:=by simp[h10]
      have HNL:Hid (nextLine r line=line∧nextCol r col=col+1):=by unfold Hid nextLine nextCol;simp[h10]
      clear h10
      go_wp2_with (first| (go_at_call 87;refine(rfirst_any s q _ hlt hs).mono ?_;rintro e w' ⟨rfl,rfl⟩;rw[←HRD.out.1,←HRD.out.2])| (at_builtin;refine app1 wr #[.int .i64 r,.int .i64 q,.int .i64 ((q:Int)+d),.int .i64 line,.int .i64 col] rfl _ _ 75 rfl w.heap.size 79 _ 5 40 Tryz.underlying75 info_rr rfl (by decide) (by decide) _ _ _ rfl (by exact hown) rfl (by simp) rfl (by simp[Value.oneCell']) (by omega) hsz ?_;intro v' w1 hown' hg' hb'))
      go_roundw
      case rel=>exact⟨pre ++ [⟨r,q,q+d,line,col⟩],q+d,line,col+1,by go_num,rfl,rfl,hdl,by simp;omega,by omega,by omega,by omega,by omega,by rw[HFS.out,List.length_append];exact hown',hb.trans hb',by have:=HN.out;rw[HNL.out.1,HNL.out.2] at this;exact this⟩
      case measure=>simp[intOf];omega
  · have HF:Hid (allR s=pre):=by unfold Hid;rw[HE.out,restG_nil _ _ _ _ _ hlt,List.append_nil]
    have hqz:¬(q:Int) < (s.size:Int):=by omega
    have HO:=Lib.hid hown;clear hown
    go_wp2
    go_ret
    exact⟨_,rfl,by rw[HF.out];exact HO.out,hb⟩
theorem rrunes_ok (s:ByteArray) (w:World) (hs:s.size≤4294967296) (hl: (allR s).length≤16384) :
 Calls Tryz.prog 32 #[.string s] w fun e w'=>∃ v,e=.returned (.tuple #[v,.int .i64 0])∧w'.ownsRow w.heap.size 79 5 v (allR s).length (rnFlat .i64 (allR s))∧Below w.heap.size w w':=by
 go_enter Tryz.func32,Tryz.ntmps32
 go_wp2_with fail
 refine(rall_any s _ hs).mono ?_
 rintro e w1 ⟨v,rfl,hown,hb⟩
 obtain⟨ad,cap,rfl⟩:=owns_len hown
 have HO:=Lib.hid hown;clear hown
 go_wp2
 go_ret2
 exact⟨_,rfl,HO.out,hb⟩
theorem rrunes_long (s:ByteArray) (w:World) (hs:s.size≤4294967296) (hl:16384 < (allR s).length) :
 Calls Tryz.prog 32 #[.string s] w fun e w'=>e=.returned (.tuple #[.slice none 0 0,.int .i64 3])∧Below w.heap.size w w':=by
 go_enter Tryz.func32,Tryz.ntmps32
 go_wp2_with fail
 refine(rall_any s _ hs).mono ?_
 rintro e w1 ⟨v,rfl,hown,hb⟩
 obtain⟨ad,cap,rfl⟩:=owns_len hown
 clear hown
 have hlz:¬((allR s).length:Int)≤16384:=by omega
 go_wp2
 go_ret2
 exact⟨rfl,hb⟩
theorem end_list (s:ByteArray) (l:List Rn) (x:Rn) (h:allR s=l ++ [x]):endL s=nextLine x.r x.line∧endC s=nextCol x.r x.col:=by
 have key:∀ k p line col l x,runesAt (decR s) s k p line col=l ++ [x]→s.size≤p+k→endAt s k p line col= (nextLine x.r x.line,nextCol x.r x.col):=by
  intro k
  induction k with
  | zero=>intro p line col l x h _;simp[runesAt] at h
  | succ k ih=>
    intro p line col l x h hk
    simp only[runesAt] at h
    rw[endAt]
    by_cases hp:p < s.size
    · have hd:=decN_pos s p
      rw[if_pos hp] at h ⊢
      cases l with
      | nil=>
        simp only[List.nil_append,List.cons.injEq] at h
        obtain⟨rfl,h2⟩:=h
        by_cases hq:p+decN s p < s.size
        · obtain⟨j,hj⟩:∃ j,k=j+1:=⟨k - 1,by omega⟩
          subst hj
          simp only[runesAt] at h2
          rw[if_pos hq] at h2;cases h2
        · cases k with
          | zero=>rfl
          | succ j=>rw[endAt,if_neg hq]
      | cons y l=>
        simp only[List.cons_append,List.cons.injEq] at h
        exact ih _ _ _ l x h.2 (by omega)
    · rw[if_neg hp] at h;simp at h
 have:=key (s.size - 0) 0 1 1 l x h (by omega)
 unfold endL endC endP
 rw[this];exact⟨rfl,rfl⟩
theorem end_nil (s:ByteArray) (h:allR s= []):endL s=1∧endC s=1:=by
 have hz:¬0 < s.size:=by
  intro hp
  unfold allR at h
  rw[restG_cons _ _ _ _ _ hp] at h;cases h
 unfold endL endC
 rw[endP_end s 0 1 1 hz];exact⟨rfl,rfl⟩
theorem PosAt.storedCol {w:World} {b:Nat} {t:TypeId} {line col:Int} (h:PosAt w b t line col) (c':Int):PosAt (w.setCell ⟨b,1,none⟩ (.int .i64 c')) b t line c':=heap_setCell_same w b 1 _ t (.int .i64 c') h
theorem PosAt.past {w:World} {b:Nat} {t:TypeId} {line col:Int} (h:PosAt w b t line col) {p:Addr} (hne:b≠p.block) (u:Value):PosAt (w.setCell p u) b t line col:=(Below.heap_setCell w p u b hne).trans h
theorem cell_past {w:World} {p:Addr} {u v:Value} {g j:Nat} (h:w.cell? ⟨g,j,none⟩ = some v) (hne:g≠p.block): (w.setCell p u).cell? ⟨g,j,none⟩ = some v:=
 (World.cell?_of_block (a:=⟨g,j,none⟩) (Below.heap_setCell w p u g hne)).trans h
theorem runesAt_bd (g:Nat→Int) (s:ByteArray) (k p:Nat) (line col:Int) (a:0≤line∧line≤p+1∧0≤col∧col≤p+1) (y:Rn) (h:y ∈ runesAt g s k p line col):0≤y.line∧y.line≤s.size+1∧0≤y.col∧y.col≤s.size+1:=by
 induction k generalizing p line col with
 | zero=>simp[runesAt] at h
 | succ k ih=>
   simp only[runesAt] at h
   split at h
   · rename_i hp
     rcases List.mem_cons.1 h with rfl|h
     · obtain⟨a1,a2,a3,a4⟩:=a
       exact⟨a1,by show line≤_;omega,a3,by show col≤_;omega⟩
     · exact ih _ _ _ (next_bd _ _ _ _ _ (decN_pos s p) a) h
   · simp at h
theorem allR_bd (s:ByteArray) (y:Rn) (h:y ∈ allR s):0≤y.line∧y.line≤s.size+1∧0≤y.col∧y.col≤s.size+1:=runesAt_bd _ _ _ _ _ _ (by omega) _ h
theorem rend_any (s:ByteArray) (w:World) (hs:s.size≤4294967296) :
 Calls Tryz.prog 34 #[.string s] w fun e w'=>e=.returned (.agg #[.int .i64 (endL s),.int .i64 (endC s)])∧Below w.heap.size w w':=by
 have HS:Hid (∀ w1,Below (w.heap.size+1+1) ((w.alloc (.cells #[.int .i64 0,.int .i64 0] 26)).alloc (.cells #[.int .i64 1,.int .i64 1] 26)) w1→PosAt w1 w.heap.size 26 0 0∧PosAt w1 (w.heap.size+1) 26 1 1∧Below w.heap.size w w1):=by
  intro w1 hb
  refine⟨?_,?_,?_⟩
  · refine(hb.block _ (by omega)).trans ?_
    rw[Below.heap_alloc _ _ _ (by simp)]
    exact heap_alloc_new w _
  · refine(hb.block _ (by omega)).trans ?_
    have:=heap_alloc_new (w.alloc (.cells #[.int .i64 0,.int .i64 0] 26)) (.cells #[.int .i64 1,.int .i64 1] 26)
    simpa using this
  · exact(((Below.refl _ w).alloc (Nat.le_refl _) _).alloc (by simp) _).trans (hb.mono (by omega))
 rcases(show allR s= []∨∃ l x,allR s=l ++ [x] by rcases List.eq_nil_or_concat (allR s) with h| ⟨a,b,h⟩ <;> simp_all) with h| ⟨l,x,h⟩
 · have HE:=Lib.hid (end_nil s h)
   have HL:Hid ((allR s).length=0):=by unfold Hid;rw[h];rfl
   clear h
   go_enter Tryz.func34,Tryz.ntmps34
   go_wp2_with fail
   refine(rall_any s _ hs).mono ?_
   rintro e w1 ⟨v,rfl,hown,hb⟩
   rw[HL.out] at hown
   obtain⟨ad,cap,rfl⟩:=owns_len hown
   obtain⟨p0,p1,hlow⟩:=HS.out w1 (by simpa using hb)
   obtain⟨c0,c1,f0,f1⟩:=p0.facts
   obtain⟨d0,d1,e0,e1⟩:=p1.facts
   obtain⟨q0,q1,q2,q3⟩:=(p0.stored 1 1).facts
   clear hown hb p0 p1
   go_wp2
   exact bodyPost_ret (v:=.agg #[.int .i64 1,.int .i64 1]) (by simp[results,Tryz.results34,go_sem,q0,q1]) rfl ⟨by rw[HE.out.1,HE.out.2],(hlow.setCell (p:=⟨w.heap.size,0,none⟩) (Nat.le_refl _) _).setCell (p:=⟨w.heap.size,1,none⟩) (Nat.le_refl _) _⟩
 · have HE:=Lib.hid (end_list s l x h)
   obtain⟨m,hm⟩:∃ m,m=l.length:=⟨_,rfl⟩
   have HL:Hid ((allR s).length=m+1):=by unfold Hid;rw[h,hm];simp
   have HX:Hid ((allR s)[m]?=some x):=by unfold Hid;rw[h,hm];simp
   have hlen:=restG_len (decR s) s 0 1 1
   have hmz:m≤4294967296:=by
    have:=HL.out;unfold allR at this;omega
   have hlx:=allR_bd s x (by rw[h];simp)
   obtain⟨b0,b1,b2,b3⟩:=hlx
   have b1':x.line≤4294967297:=by omega
   have b3':x.col≤4294967297:=by omega
   clear h hm hlen
   have key:∀ (w1:World) (v:Value),w1.ownsRow (w.heap.size+1+1) 79 5 v (m+1) (rnFlat .i64 (allR s))→∃ g cap,v=.slice (some ⟨g,0,none⟩) (m+1) cap∧w.heap.size+2≤g∧w1.cell? ⟨g,m * 5,none⟩ = some (.int .i64 x.r)∧w1.cell? ⟨g,m * 5+3,none⟩ = some (.int .i64 x.line)∧w1.cell? ⟨g,m * 5+4,none⟩ = some (.int .i64 x.col):=by
    intro w1 v ho
    obtain⟨g,cap,rfl,hg,hgs⟩:=owns_shape ho (by omega)
    exact⟨g,cap,rfl,by omega,(World.ownsRow.cellAt ho (m * 5) (by omega)).trans (rnFlat_get .i64 _ m 0 x HX.out (by omega)),(World.ownsRow.cellAt ho (m * 5+3) (by omega)).trans (rnFlat_get .i64 _ m 3 x HX.out (by omega)),(World.ownsRow.cellAt ho (m * 5+4) (by omega)).trans (rnFlat_get .i64 _ m 4 x HX.out (by omega))⟩
   have HK:=Lib.hid key;clear key
   by_cases h10:x.r=10
   · have t10: (x.r == 10)=true:=by simp[h10]
     have HE2:Hid (endL s=x.line+1∧endC s=1):=by
      unfold Hid;rw[HE.out.1,HE.out.2];unfold nextLine nextCol;simp[h10]
     clear h10
     go_enter Tryz.func34,Tryz.ntmps34
     go_wp2_with fail
     refine(rall_any s _ hs).mono ?_
     rintro e w1 ⟨v,rfl,hown,hb⟩
     rw[HL.out] at hown
     obtain⟨g,cap,rfl,hg,g0,g3,g4⟩:=HK.out w1 v (by simpa using hown)
     obtain⟨p0,p1,hlow⟩:=HS.out w1 (by simpa using hb)
     obtain⟨c0,c1,f0,f1⟩:=p0.facts
     obtain⟨d0,d1,e0,e1⟩:=p1.facts
     have HLOW:=Lib.hid hlow
     have hgb2:g≠w.heap.size+1:=by omega
     have hgb3:g≠w.heap.size:=by omega
     have pA:=p1.stored x.line x.col
     have pB:=pA.storedCol (x.col+1)
     have hbb:w.heap.size≠w.heap.size+1:=by omega
     have zA:=((p0.past (p:=⟨w.heap.size+1,0,none⟩) hbb (.int .i64 x.line)).past (p:=⟨w.heap.size+1,1,none⟩) hbb (.int .i64 x.col)).past (p:=⟨w.heap.size+1,1,none⟩) hbb (.int .i64 (x.col+1))
     have hlA:=((hlow.setCell (p:=⟨w.heap.size+1,0,none⟩) (by show w.heap.size≤w.heap.size+1;omega) (.int .i64 x.line)).setCell (p:=⟨w.heap.size+1,1,none⟩) (by show w.heap.size≤w.heap.size+1;omega) (.int .i64 x.col)).setCell (p:=⟨w.heap.size+1,1,none⟩) (by show w.heap.size≤w.heap.size+1;omega) (.int .i64 (x.col+1))
     have pC:=pB.stored (x.line+1) 1
     have zC:=(zA.past (p:=⟨w.heap.size+1,0,none⟩) hbb (.int .i64 (x.line+1))).past (p:=⟨w.heap.size+1,1,none⟩) hbb (.int .i64 1)
     have hlC:=(hlA.setCell (p:=⟨w.heap.size+1,0,none⟩) (by show w.heap.size≤w.heap.size+1;omega) (.int .i64 (x.line+1))).setCell (p:=⟨w.heap.size+1,1,none⟩) (by show w.heap.size≤w.heap.size+1;omega) (.int .i64 1)
     have HLD:=Lib.hid ((hlC.setCell (p:=⟨w.heap.size,0,none⟩) (Nat.le_refl _) (.int .i64 (x.line+1))).setCell (p:=⟨w.heap.size,1,none⟩) (Nat.le_refl _) (.int .i64 1))
     obtain⟨r0,r1,r2,r3⟩:=pC.facts
     obtain⟨u0,u1,u2,u3⟩:=zC.facts
     obtain⟨s0,s1,s2,s3⟩:=(zC.stored (x.line+1) 1).facts
     have gA: ((w1.setCell ⟨w.heap.size+1,0,none⟩ (.int .i64 x.line)).setCell ⟨w.heap.size+1,1,none⟩ (.int .i64 x.col)).cell? ⟨g,m * 5,none⟩ = some (.int .i64 x.r):=cell_past (cell_past g0 hgb2) hgb2
     have gB:=cell_past (p:=⟨w.heap.size+1,1,none⟩) (u:=.int .i64 (x.col+1)) gA hgb2
     obtain⟨a0,a1,a2,a3⟩:=pA.facts
     obtain⟨o0,o1,o2,o3⟩:=pB.facts
     clear hown hb p0 p1 hlow HS HK HX HL HE b1 b3 hg pA pB pC zA zC hlA hlC hbb
     go_wp2
     exact bodyPost_ret (v:=.agg #[.int .i64 (x.line+1),.int .i64 1]) (by simp[results,Tryz.results34,go_sem,s0,s1]) rfl ⟨by rw[HE2.out.1,HE2.out.2],HLD.out⟩
   · have t10: (x.r == 10)=false:=by simp[h10]
     have HE2:Hid (endL s=x.line∧endC s=x.col+1):=by
      unfold Hid;rw[HE.out.1,HE.out.2];unfold nextLine nextCol;simp[h10]
     clear h10
     go_enter Tryz.func34,Tryz.ntmps34
     go_wp2_with fail
     refine(rall_any s _ hs).mono ?_
     rintro e w1 ⟨v,rfl,hown,hb⟩
     rw[HL.out] at hown
     obtain⟨g,cap,rfl,hg,g0,g3,g4⟩:=HK.out w1 v (by simpa using hown)
     obtain⟨p0,p1,hlow⟩:=HS.out w1 (by simpa using hb)
     obtain⟨c0,c1,f0,f1⟩:=p0.facts
     obtain⟨d0,d1,e0,e1⟩:=p1.facts
     have HLOW:=Lib.hid hlow
     have hgb2:g≠w.heap.size+1:=by omega
     have hgb3:g≠w.heap.size:=by omega
     have pA:=p1.stored x.line x.col
     have pB:=pA.storedCol (x.col+1)
     have hbb:w.heap.size≠w.heap.size+1:=by omega
     have zA:=((p0.past (p:=⟨w.heap.size+1,0,none⟩) hbb (.int .i64 x.line)).past (p:=⟨w.heap.size+1,1,none⟩) hbb (.int .i64 x.col)).past (p:=⟨w.heap.size+1,1,none⟩) hbb (.int .i64 (x.col+1))
     have hlA:=((hlow.setCell (p:=⟨w.heap.size+1,0,none⟩) (by show w.heap.size≤w.heap.size+1;omega) (.int .i64 x.line)).setCell (p:=⟨w.heap.size+1,1,none⟩) (by show w.heap.size≤w.heap.size+1;omega) (.int .i64 x.col)).setCell (p:=⟨w.heap.size+1,1,none⟩) (by show w.heap.size≤w.heap.size+1;omega) (.int .i64 (x.col+1))
     have HLD:=Lib.hid ((hlA.setCell (p:=⟨w.heap.size,0,none⟩) (Nat.le_refl _) (.int .i64 x.line)).setCell (p:=⟨w.heap.size,1,none⟩) (Nat.le_refl _) (.int .i64 (x.col+1)))
     obtain⟨u0,u1,u2,u3⟩:=zA.facts
     obtain⟨s0,s1,s2,s3⟩:=(zA.stored x.line (x.col+1)).facts
     have gA: ((w1.setCell ⟨w.heap.size+1,0,none⟩ (.int .i64 x.line)).setCell ⟨w.heap.size+1,1,none⟩ (.int .i64 x.col)).cell? ⟨g,m * 5,none⟩ = some (.int .i64 x.r):=cell_past (cell_past g0 hgb2) hgb2
     have gB:=cell_past (p:=⟨w.heap.size+1,1,none⟩) (u:=.int .i64 (x.col+1)) gA hgb2
     obtain⟨a0,a1,a2,a3⟩:=pA.facts
     obtain⟨o0,o1,o2,o3⟩:=pB.facts
     clear hown hb p0 p1 hlow HS HK HX HL HE b1 b3 hg pA pB zA hlA hbb
     go_wp2
     exact bodyPost_ret (v:=.agg #[.int .i64 x.line,.int .i64 (x.col+1)]) (by simp[results,Tryz.results34,go_sem,s0,s1]) rfl ⟨by rw[HE2.out.1,HE2.out.2],HLD.out⟩
end Go.Proofs.YthlofmnmacpogaaGreatDoor
