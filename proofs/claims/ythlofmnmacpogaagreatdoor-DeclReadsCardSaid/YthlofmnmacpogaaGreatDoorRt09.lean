/- A part of a proof of DeclReadsProof. -/
import Derived.Test.YthlofmnmacpogaaGreatDoorRt07
import Derived.Lib.IndexMore
import Derived.Shelf.Strings.Builder1
import Derived.Shelf.Strings.Builder2
import Derived.Shelf.Strings.OnBuilder
import Derived.Shelf.Small.Utf8
import Derived.Shelf.Small.Strs
import Derived.Shelf.Strings.BuilderF
import Derived.Shelf.Strings.BuilderK
import Derived.Shelf.Strings.BuilderRune
import Derived.Shelf.Strings.Search1
import Derived.Shelf.Strings.Search2
import Derived.Shelf.Strings.Search3
import Derived.Shelf.LaysM
import Derived.Shelf.Strings.Shaped
import Derived.Shelf.Strings.Prefix
import Derived.Shelf.Unicode.Latin
import Derived.Shelf.Unicode.DecodeSlow
import Derived.Shelf.Unicode.DecodeAny
import Derived.Shelf.Unicode.CaseLookup
import Derived.Shelf.Unicode.CaseConvert
import Derived.Shelf.Unicode.CaseTo
import Derived.Shelf.Unicode.CaseLaid
import Derived.Shelf.Strings.MapAny
import Derived.Shelf.Strings.CaseAny
import Derived.Test.YthlofmnmacpogaaGreatDoorProg
import Derived.Lib.IndexLaws
import Derived.Test.YthlofmnmacpogaaGreatDoorRt04
set_option maxRecDepth 100000
set_option maxHeartbeats 40000000
namespace Go.Proofs.YthlofmnmacpogaaGreatDoor
open Go.RowKit
def DigT (s:ByteArray):Prop:=∀ (k:Nat) (h:k < s.size),48≤(s[k]'h).toNat∧(s[k]'h).toNat≤57
theorem tdiv_dash (c:Nat) (h1:48≤c) (h2:c≤57): (-9223372036854775808+ ((c:Int) - 48)).tdiv 10= -((9223372036854775808 - ((c:Int) - 48)) / 10):=by
 rw[show(-9223372036854775808+ ((c:Int) - 48))= -(9223372036854775808 - ((c:Int) - 48)) by omega,Int.neg_tdiv,Int.tdiv_eq_ediv_of_nonneg (by omega)]
theorem value_pos (s:ByteArray) (w:World) (hs:s.size≤4294967296) (h0:0 < s.size) (hn:DigT s) :
 Calls Tryz.prog 86 #[.string s] w fun e w'=>e=.returned (.tuple #[.int .i64 (valN s false).1,.bool (valN s false).2])∧w=w':=by
 have hb:decide ((s[0]'h0).toNat=45)=false:=decide_eq_false (by have:=hn 0 h0;omega)
 have HN:=Lh hn
 clear hn
 go_enter Tryz.func86,Tryz.ntmps86
 go_wp2_with fail
 refine(trim_any s h0 _ hs).mono ?_
 rintro e w' ⟨rfl,rfl⟩
 rw[hb,show noDash s false=s from rfl]
 go_wp2
 go_loop [5,6,7,12] (fun n _ _ i=>∃ (k m:Nat),k≤s.size∧i=.int .i64 k∧n=.int .i64 (-(m:Int))∧m≤9223372036854775808∧Hid (numV (s.data.toList.take k)=m)) (fun _ _ _ i=>s.size - (intOf i).toNat)
 case atStart=>exact⟨0,0,Nat.zero_le _,rfl,rfl,by omega,rfl⟩
 case round=>
  obtain⟨k,m,hk,rfl,rfl,hm,HE⟩:=hrel
  by_cases hlt:k < s.size
  · obtain⟨c,hc⟩:∃ c,(s[k]'hlt).toNat=c:=⟨_,rfl⟩
    have hd:48≤c∧c≤57:=by rw[←hc];exact HN.out k hlt
    have hstep:numV (s.data.toList.take (k+1))=m * 10+ (c - 48):=by
     rw[numV_next s k hlt,HE.out];unfold stepV;rw[hc,if_neg (by omega)]
    have ht:=tdiv_dash c hd.1 hd.2
    by_cases hover:m * 10+ (c - 48)≤9223372036854775808
    · have HS:=Lh hstep;clear hstep
      have hq:¬(-(m:Int) < (-9223372036854775808+ ((c:Int) - 48)).tdiv 10):=by rw[ht];omega
      clear ht
      obtain⟨hd1,hd2⟩:=hd
      go_wp2
      go_round
      case rel=>exact⟨k+1,m * 10+ (c - 48),by omega,by go_num,by go_num,by omega,HS⟩
      case measure=>simp[intOf];omega
    · have hq: (-(m:Int) < (-9223372036854775808+ ((c:Int) - 48)).tdiv 10):=by rw[ht];omega
      have HF:Hid (valN s false= (0,false)):=by
       refine Lh ?_
       have:=numV_take s.data.toList (k+1)
       unfold valN
       rw[if_neg (by simp),if_neg (by omega)]
      clear ht hstep hover
      obtain⟨hd1,hd2⟩:=hd
      go_wp2
      go_ret2
      exact⟨ret_val (by rw[HF.out]) (by rw[HF.out]),rfl⟩
  · have he:numV s.data.toList=m:=by
     have:=HE.out
     rwa [List.take_of_length_le (by simp;omega)] at this
    have hl: (s.toList == s.toList)=true:=by simp
    by_cases hmm:m=9223372036854775808
    · have HF:Hid (valN s false= (0,false)):=by
       refine Lh ?_
       unfold valN
       rw[if_neg (by simp),he,if_neg (by omega)]
      have hm1: ((-(m:Int)) == -9223372036854775808)=true:=by rw[beq_iff_eq];omega
      clear he
      go_wp2
      go_ret2
      exact⟨ret_val (by rw[HF.out]) (by rw[HF.out]),rfl⟩
    · have HF:Hid (valN s false= ((m:Int),true)):=by
       refine Lh ?_
       unfold valN
       rw[if_neg (by simp),he,if_pos (by omega)]
      have hm1: ((-(m:Int)) == -9223372036854775808)=false:=beq_eq_false_iff_ne.2 (by omega)
      clear he
      go_wp2
      go_ret2
      exact⟨ret_val (by first| (rw[HF.out];done)| (rw[HF.out];simp)) (by rw[HF.out]),rfl⟩
theorem numV_dash (s:ByteArray) (h0:0 < s.size) (h: (s[0]'h0).toNat=45):numV (s.extract 1 s.size).data.toList=numV s.data.toList:=by
 rw[Lib.extract_data,List.take_of_length_le (by simp)]
 conv=>rhs;rw[bytes_cons s h0]
 show _= (s.data.toList.drop 1).foldl stepV (stepV 0 (s[0]'h0))
 unfold stepV
 rw[if_pos h]
 rfl
theorem value_neg (s:ByteArray) (w:World) (hs:s.size≤4294967296) (h0:0 < s.size) (hb0: (s[0]'h0).toNat=45) (hn:DigT (s.extract 1 s.size)) :
 Calls Tryz.prog 86 #[.string s] w fun e w'=>e=.returned (.tuple #[.int .i64 (valN s true).1,.bool (valN s true).2])∧w=w':=by
 have hb:decide ((s[0]'h0).toNat=45)=true:=decide_eq_true hb0
 have hnum:=numV_dash s h0 hb0
 have hds:=ByteArray.size_extract (a:=s) (b:=1) (e:=s.size)
 obtain⟨d,hd⟩:∃ d,s.extract 1 s.size=d:=⟨_,rfl⟩
 have hnd:noDash s true=d:=hd
 rw[hd] at hnum hds hn
 have hds:d.size < s.size:=by omega
 have HU:=Lh hnum
 clear hnum hb0 hd
 have HN:=Lh hn
 clear hn
 go_enter Tryz.func86,Tryz.ntmps86
 go_wp2_with fail
 refine(trim_any s h0 _ hs).mono ?_
 rintro e w' ⟨rfl,rfl⟩
 rw[hb,hnd]
 go_wp2
 go_loop [5,6,7,12] (fun n _ _ i=>∃ (k m:Nat),k≤d.size∧i=.int .i64 k∧n=.int .i64 (-(m:Int))∧m≤9223372036854775808∧Hid (numV (d.data.toList.take k)=m)) (fun _ _ _ i=>d.size - (intOf i).toNat)
 case atStart=>exact⟨0,0,Nat.zero_le _,rfl,rfl,by omega,rfl⟩
 case round=>
  obtain⟨k,m,hk,rfl,rfl,hm,HE⟩:=hrel
  by_cases hlt:k < d.size
  · obtain⟨c,hc⟩:∃ c,(d[k]'hlt).toNat=c:=⟨_,rfl⟩
    have hd:48≤c∧c≤57:=by rw[←hc];exact HN.out k hlt
    have hstep:numV (d.data.toList.take (k+1))=m * 10+ (c - 48):=by
     rw[numV_next d k hlt,HE.out];unfold stepV;rw[hc,if_neg (by omega)]
    have ht:=tdiv_dash c hd.1 hd.2
    by_cases hover:m * 10+ (c - 48)≤9223372036854775808
    · have HS:=Lh hstep;clear hstep
      have hq:¬(-(m:Int) < (-9223372036854775808+ ((c:Int) - 48)).tdiv 10):=by rw[ht];omega
      clear ht
      obtain⟨hd1,hd2⟩:=hd
      go_wp2
      go_round
      case rel=>exact⟨k+1,m * 10+ (c - 48),by omega,by go_num,by go_num,by omega,HS⟩
      case measure=>simp[intOf];omega
    · have hq: (-(m:Int) < (-9223372036854775808+ ((c:Int) - 48)).tdiv 10):=by rw[ht];omega
      have HF:Hid (valN s true= (0,false)):=by
       refine Lh ?_
       have:=numV_take d.data.toList (k+1)
       unfold valN
       rw[if_pos rfl,←HU.out,if_neg (by omega)]
      clear ht hstep hover
      obtain⟨hd1,hd2⟩:=hd
      go_wp2
      go_ret2
      exact⟨ret_val (by rw[HF.out]) (by rw[HF.out]),rfl⟩
  · have he:numV d.data.toList=m:=by
     have:=HE.out
     rwa [List.take_of_length_le (by simp;omega)] at this
    have hl: (d.toList == s.toList)=false:=by
     rw[beq_bytes]
     exact decide_eq_false (by rintro rfl;omega)
    have HF:Hid (valN s true= (-(m:Int),true)):=by
     refine Lh ?_
     unfold valN
     rw[if_pos rfl,←HU.out,he,if_pos (by omega)]
    clear he
    go_wp2
    go_ret2
    exact⟨ret_val (by rw[HF.out]) (by rw[HF.out]),rfl⟩
theorem index_cons (b:UInt8) (l sub:List UInt8): (0≤Lib.index (b :: l) sub) ↔ (sub.isPrefixOf (b :: l)=true∨0≤Lib.index l sub):=by
 have:=Lib.index_ge l sub
 obtain⟨q,hq⟩:∃ q,Lib.index l sub=q:=⟨_,rfl⟩
 rw[show Lib.index (b :: l) sub=if sub.isPrefixOf (b :: l) then 0 else if Lib.index l sub == -1 then -1 else Lib.index l sub+1 by rw[Lib.index]]
 rw[hq] at this ⊢
 cases sub.isPrefixOf (b :: l)
 · by_cases h2:q= -1
   · subst h2;simp
   · have h3: (q == -1)=false:=beq_eq_false_iff_ne.2 h2
     simp[h3];omega
 · simp
theorem index_word (w rest sub:List UInt8) (h:∀ b ∈ w,b≠32): (0≤Lib.index (w ++rest) (32 :: sub)) ↔ 0≤Lib.index rest (32 :: sub):=by
 induction w with
 | nil=>rfl
 | cons b t ih=>
   rw[List.cons_append,index_cons,ih (fun c hc=>h c (List.mem_cons_of_mem _ hc))]
   have: (32 :: sub).isPrefixOf (b :: (t ++rest))=false:=by
    have hb:=h b (List.mem_cons_self)
    simp[List.isPrefixOf]
    intro e;exact absurd e.symm hb
   simp[this]
theorem prefix_word (s w rest:List UInt8) (hs:∀ b ∈ s,b≠32) (hw:∀ b ∈ w,b≠32): (s ++ [32]).isPrefixOf (w ++32 :: rest)=true ↔ w=s:=by
 induction s generalizing w with
 | nil=>
   cases w with
   | nil=>simp[List.isPrefixOf]
   | cons c t=>
     have hc:=hw c (List.mem_cons_self)
     simp[List.isPrefixOf]
     exact fun e=>absurd e.symm hc
 | cons a l ih=>
   cases w with
   | nil=>
     have ha:=hs a (List.mem_cons_self)
     simp[List.isPrefixOf,ha]
   | cons c t=>
     have:=ih t (fun b hb=>hs b (List.mem_cons_of_mem _ hb)) (fun b hb=>hw b (List.mem_cons_of_mem _ hb))
     simp only[List.cons_append,List.isPrefixOf,Bool.and_eq_true,beq_iff_eq,this,List.cons.injEq]
     constructor
     · rintro⟨h1,h2⟩;exact⟨h1.symm,h2⟩
     · rintro⟨h1,h2⟩;exact⟨h1.symm,h2⟩
theorem index_words (ws:List (List UInt8)) (s:List UInt8) (hs:∀ b ∈ s,b≠32) (hw:∀ w ∈ ws,∀ b ∈ w,b≠32) :
 (0≤Lib.index (32 :: ws.flatMap (fun w=>w ++ [32])) (32 :: (s ++ [32]))) ↔ s ∈ ws:=by
 induction ws with
 | nil=>rw[List.flatMap_nil,index_cons];simp[Lib.index,List.isPrefixOf]
 | cons w t ih=>
   rw[List.flatMap_cons,List.append_assoc,index_cons,List.singleton_append,index_word _ _ _ (hw w (List.mem_cons_self)),ih (fun x hx=>hw x (List.mem_cons_of_mem _ hx))]
   have:=prefix_word s w (t.flatMap (fun w=>w ++ [32])) hs (hw w (List.mem_cons_self))
   simp only[List.isPrefixOf,beq_self_eq_true,Bool.true_and,this,List.mem_cons]
   constructor
   · intro h
     rcases h with h|h
     · exact .inl h.symm
     · exact .inr h
   · intro h
     rcases h with h|h
     · exact .inl h.symm
     · exact .inr h
end Go.Proofs.YthlofmnmacpogaaGreatDoor
namespace Go.Proofs
open Go.Shelf
def Tryz.lays159_ren:Go.Shelf.Ren:=⟨fun|159=>85|165=>94|166=>95|167=>96|169=>97|230=>98|204=>99|240=>110|241=>111|197=>112|118=>113|168=>114|270=>115|262=>116|276=>128|277=>129|260=>130|242=>131|313=>132|278=>147|274=>148|275=>149|n=>n,fun|9=>9|4=>4|3=>3|5=>5|72=>123|0=>0|76=>127|75=>126|107=>131|70=>120|20=>20|37=>121|127=>139|21=>21|105=>140|164=>150|162=>156|203=>154|119=>169|46=>149|139=>172|138=>171|51=>166|160=>173|208=>182|206=>180|80=>103|n=>n,fun|13=>1|3=>2|4=>3|n=>n⟩
theorem Tryz.lays159:Go.Proofs.Lays.n159 Tryz.prog Tryz.lays159_ren:={
 mixed:=by kernel_rfl
 f118:=Tryz.func113.trans (congrArg some (by kernel_rfl))
 f159:=Tryz.func85.trans (congrArg some (by kernel_rfl))
 f165:=Tryz.func94.trans (congrArg some (by kernel_rfl))
 f166:=Tryz.func95.trans (congrArg some (by kernel_rfl))
 f167:=Tryz.func96.trans (congrArg some (by kernel_rfl))
 f168:=Tryz.func114.trans (congrArg some (by kernel_rfl))
 f169:=Tryz.func97.trans (congrArg some (by kernel_rfl))
 f197:=Tryz.func112.trans (congrArg some (by kernel_rfl))
 f204:=Tryz.func99.trans (congrArg some (by kernel_rfl))
 f230:=Tryz.func98.trans (congrArg some (by kernel_rfl))
 f240:=Tryz.func110.trans (congrArg some (by kernel_rfl))
 f241:=Tryz.func111.trans (congrArg some (by kernel_rfl))
 f242:=Tryz.func131.trans (congrArg some (by kernel_rfl))
 f260:=Tryz.func130.trans (congrArg some (by kernel_rfl))
 f262:=Tryz.func116.trans (congrArg some (by kernel_rfl))
 f270:=Tryz.func115.trans (congrArg some (by kernel_rfl))
 f274:=Tryz.func148.trans (congrArg some (by kernel_rfl))
 f275:=Tryz.func149.trans (congrArg some (by kernel_rfl))
 f276:=Tryz.func128.trans (congrArg some (by kernel_rfl))
 f277:=Tryz.func129.trans (congrArg some (by kernel_rfl))
 f278:=Tryz.func147.trans (congrArg some (by kernel_rfl))
 f313:=Tryz.func132.trans (congrArg some (by kernel_rfl))
 t0:=Tryz.underlying0
 a0:=Tryz.isAgg0
 z0:=Tryz.sizeOf0
 v0:=Tryz.zeroValue0
 t3:=Tryz.underlying3
 a3:=Tryz.isAgg3
 z3:=Tryz.sizeOf3
 v3:=Tryz.zeroValue3
 t4:=Tryz.underlying4
 a4:=Tryz.isAgg4
 z4:=Tryz.sizeOf4
 v4:=Tryz.zeroValue4
 t5:=Tryz.underlying5
 a5:=Tryz.isAgg5
 z5:=Tryz.sizeOf5
 v5:=Tryz.zeroValue5
 t9:=Tryz.underlying9
 a9:=Tryz.isAgg9
 z9:=Tryz.sizeOf9
 v9:=Tryz.zeroValue9
 t20:=Tryz.underlying20
 a20:=Tryz.isAgg20
 z20:=Tryz.sizeOf20
 v20:=Tryz.zeroValue20
 t21:=Tryz.underlying21
 a21:=Tryz.isAgg21
 z21:=Tryz.sizeOf21
 v21:=Tryz.zeroValue21
 t37:=Tryz.underlying121
 a37:=Tryz.isAgg121
 z37:=Tryz.sizeOf121
 v37:=Tryz.zeroValue121
 t46:=Tryz.underlying149
 a46:=Tryz.isAgg149
 z46:=Tryz.sizeOf149
 v46:=Tryz.zeroValue149
 t51:=Tryz.underlying166
 a51:=Tryz.isAgg166
 z51:=Tryz.sizeOf166
 v51:=Tryz.zeroValue166
 t70:=Tryz.underlying120
 a70:=Tryz.isAgg120
 z70:=Tryz.sizeOf120
 v70:=Tryz.zeroValue120
 t72:=Tryz.underlying123
 a72:=Tryz.isAgg123
 z72:=Tryz.sizeOf123
 v72:=Tryz.zeroValue123
 t75:=Tryz.underlying126
 a75:=Tryz.isAgg126
 z75:=Tryz.sizeOf126
 v75:=Tryz.zeroValue126
 t76:=Tryz.underlying127
 a76:=Tryz.isAgg127
 z76:=Tryz.sizeOf127
 v76:=Tryz.zeroValue127
 t105:=Tryz.underlying140
 a105:=Tryz.isAgg140
 z105:=Tryz.sizeOf140
 v105:=Tryz.zeroValue140
 t107:=Tryz.underlying131
 a107:=Tryz.isAgg131
 z107:=Tryz.sizeOf131
 v107:=Tryz.zeroValue131
 t119:=Tryz.underlying169
 a119:=Tryz.isAgg169
 z119:=Tryz.sizeOf169
 t127:=Tryz.underlying139
 a127:=Tryz.isAgg139
 z127:=Tryz.sizeOf139
 v127:=Tryz.zeroValue139
 t138:=Tryz.underlying171
 a138:=Tryz.isAgg171
 z138:=Tryz.sizeOf171
 v138:=Tryz.zeroValue171
 t139:=Tryz.underlying172
 a139:=Tryz.isAgg172
 z139:=Tryz.sizeOf172
 v139:=Tryz.zeroValue172
 t160:=Tryz.underlying173
 a160:=Tryz.isAgg173
 z160:=Tryz.sizeOf173
 v160:=Tryz.zeroValue173
 t162:=Tryz.underlying156
 a162:=Tryz.isAgg156
 z162:=Tryz.sizeOf156
 v162:=Tryz.zeroValue156
 t164:=Tryz.underlying150
 a164:=Tryz.isAgg150
 z164:=Tryz.sizeOf150
 v164:=Tryz.zeroValue150
 t203:=Tryz.underlying154
 a203:=Tryz.isAgg154
 z203:=Tryz.sizeOf154
 v203:=Tryz.zeroValue154
 t206:=Tryz.underlying180
 a206:=Tryz.isAgg180
 z206:=Tryz.sizeOf180
 v206:=Tryz.zeroValue180
 t208:=Tryz.underlying182
 a208:=Tryz.isAgg182
 z208:=Tryz.sizeOf182
 v208:=Tryz.zeroValue182
 g3:=by kernel_rfl
 g4:=by kernel_rfl
 g13:=by kernel_rfl }
theorem Tryz.Builder_Extra_159:Builder.Extra Tryz.prog Tryz.lays159_ren:={
 sizeBuilder:=by kernel_rfl
 liesBuilder:=by kernel_rfl
 t5:=Tryz.underlying5
 a5:=Tryz.isAgg5
 z5:=Tryz.sizeOf5
 v5:=Tryz.zeroValue5
 infoByte:=by kernel_rfl
 cellsByte:=by kernel_rfl
 sizeByte:=by kernel_rfl
 neB5:=by decide }
open Go.RowKit in
theorem Tryz.strings_ToLower_ascii (s:ByteArray) (w:World) (hs:s.size≤140737488355328) (hascii:∀ (j:Nat) (b:UInt8),s.data.toList[j]?=some b→b.toNat < 128) :
 Calls Tryz.prog 85 #[.string s] w fun e w'=>e=.returned (.string ⟨(Lib.toLowerA s.data.toList).toArray⟩)∧Below w.heap.size w w':=Any.strings_ToLower_ascii Tryz.lays159 Tryz.Builder_Extra_159 s w hs hascii
def Tryz.lays137_ren:Go.Shelf.Ren:=⟨fun|137=>79|217=>93|266=>109|n=>n,fun|9=>9|5=>5|3=>3|n=>n,fun|n=>n⟩
theorem Tryz.lays137:Go.Proofs.Lays.n137 Tryz.prog Tryz.lays137_ren:={
 mixed:=by kernel_rfl
 f137:=Tryz.func79.trans (congrArg some (by kernel_rfl))
 f217:=Tryz.func93.trans (congrArg some (by kernel_rfl))
 f266:=Tryz.func109.trans (congrArg some (by kernel_rfl))
 t3:=Tryz.underlying3
 a3:=Tryz.isAgg3
 z3:=Tryz.sizeOf3
 v3:=Tryz.zeroValue3
 t5:=Tryz.underlying5
 a5:=Tryz.isAgg5
 z5:=Tryz.sizeOf5
 v5:=Tryz.zeroValue5
 t9:=Tryz.underlying9
 a9:=Tryz.isAgg9
 z9:=Tryz.sizeOf9
 v9:=Tryz.zeroValue9 }
open Go.RowKit in
theorem Tryz.strings_IndexByte (s:ByteArray) (c:Int) (w:World) :
 Calls Tryz.prog 79 #[.string s,.int .u8 c] w fun e w'=>e=.returned (.int .i64 (Lib.indexByte s.data.toList c.toNat.toUInt8))∧w'=w:=Any.strings_IndexByte Tryz.lays137 s c w
def Tryz.lays144_ren:Go.Shelf.Ren:=⟨fun|144=>77|143=>92|219=>108|217=>93|225=>125|224=>126|267=>127|266=>109|314=>146|n=>n,fun|9=>9|4=>4|3=>3|5=>5|46=>149|146=>167|51=>166|n=>n,fun|1=>0|n=>n⟩
theorem Tryz.lays144:Go.Proofs.Lays.n144 Tryz.prog Tryz.lays144_ren:={
 mixed:=by kernel_rfl
 f143:=Tryz.func92.trans (congrArg some (by kernel_rfl))
 f144:=Tryz.func77.trans (congrArg some (by kernel_rfl))
 f217:=Tryz.func93.trans (congrArg some (by kernel_rfl))
 f219:=Tryz.func108.trans (congrArg some (by kernel_rfl))
 f224:=Tryz.func126.trans (congrArg some (by kernel_rfl))
 f225:=Tryz.func125.trans (congrArg some (by kernel_rfl))
 f266:=Tryz.func109.trans (congrArg some (by kernel_rfl))
 f267:=Tryz.func127.trans (congrArg some (by kernel_rfl))
 f314:=Tryz.func146.trans (congrArg some (by kernel_rfl))
 t3:=Tryz.underlying3
 a3:=Tryz.isAgg3
 z3:=Tryz.sizeOf3
 v3:=Tryz.zeroValue3
 t4:=Tryz.underlying4
 a4:=Tryz.isAgg4
 z4:=Tryz.sizeOf4
 v4:=Tryz.zeroValue4
 t5:=Tryz.underlying5
 a5:=Tryz.isAgg5
 z5:=Tryz.sizeOf5
 v5:=Tryz.zeroValue5
 t9:=Tryz.underlying9
 a9:=Tryz.isAgg9
 z9:=Tryz.sizeOf9
 v9:=Tryz.zeroValue9
 t46:=Tryz.underlying149
 a46:=Tryz.isAgg149
 z46:=Tryz.sizeOf149
 v46:=Tryz.zeroValue149
 t51:=Tryz.underlying166
 a51:=Tryz.isAgg166
 z51:=Tryz.sizeOf166
 v51:=Tryz.zeroValue166
 t146:=Tryz.underlying167
 a146:=Tryz.isAgg167
 z146:=Tryz.sizeOf167
 v146:=Tryz.zeroValue167
 g1:=by kernel_rfl }
open Go.RowKit Go.Lib in
theorem Tryz.strings_Contains_one (s:ByteArray) (c:UInt8) (w:World) :
 Calls Tryz.prog 77 #[.string s,.string ⟨#[c]⟩] w fun e w'=>e=.returned (.bool (decide (0≤Lib.indexByte s.data.toList c)))∧w'=w:=Any.strings_Contains_one Tryz.lays144 s c w
open Go.RowKit Go.Lib in
theorem Tryz.strings_Contains (s sub:ByteArray) (m:Int) (w:World) (hs:s.size < 4294967281) (hm:w.cell? ⟨0,0,none⟩ = some (.int .i64 m)) :
 Calls Tryz.prog 77 #[.string s,.string sub] w fun e w'=>e=.returned (.bool (Lib.contains s.data.toList sub.data.toList))∧w'=w:=Any.strings_Contains Tryz.lays144 s sub m w hs hm
def Tryz.laysM144_ren:Go.Shelf.Ren:=⟨fun|144=>77|143=>92|219=>108|217=>93|225=>125|224=>126|267=>127|266=>109|314=>146|n=>n,fun|9=>9|4=>4|3=>3|5=>5|46=>149|146=>167|51=>166|n=>n,fun|1=>0|n=>n⟩
theorem Tryz.laysM144:Go.Proofs.LaysM.n144 Tryz.prog Tryz.laysM144_ren:={
 mixed:=by kernel_rfl
 f143:=Tryz.func92.trans (congrArg some (by kernel_rfl))
 f144:=Tryz.func77.trans (congrArg some (by kernel_rfl))
 f217:=Tryz.func93.trans (congrArg some (by kernel_rfl))
 f219:=Tryz.func108.trans (congrArg some (by kernel_rfl))
 f224:=Tryz.func126.trans (congrArg some (by kernel_rfl))
 f225:=Tryz.func125.trans (congrArg some (by kernel_rfl))
 f266:=Tryz.func109.trans (congrArg some (by kernel_rfl))
 f267:=Tryz.func127.trans (congrArg some (by kernel_rfl))
 f314:=Tryz.func146.trans (congrArg some (by kernel_rfl))
 t3:=Tryz.underlying3
 a3:=Tryz.isAgg3
 z3:=Tryz.sizeOf3
 v3:=Tryz.zeroValue3
 t4:=Tryz.underlying4
 a4:=Tryz.isAgg4
 z4:=Tryz.sizeOf4
 v4:=Tryz.zeroValue4
 t5:=Tryz.underlying5
 a5:=Tryz.isAgg5
 z5:=Tryz.sizeOf5
 v5:=Tryz.zeroValue5
 t9:=Tryz.underlying9
 a9:=Tryz.isAgg9
 z9:=Tryz.sizeOf9
 v9:=Tryz.zeroValue9
 t46:=Tryz.underlying149
 a46:=Tryz.isAgg149
 z46:=Tryz.sizeOf149
 v46:=Tryz.zeroValue149
 t51:=Tryz.underlying166
 a51:=Tryz.isAgg166
 z51:=Tryz.sizeOf166
 v51:=Tryz.zeroValue166
 t146:=Tryz.underlying167
 a146:=Tryz.isAgg167
 z146:=Tryz.sizeOf167
 v146:=Tryz.zeroValue167
 g1:=by kernel_rfl
 i3:=by kernel_rfl
 i4:=by kernel_rfl
 i5:=by kernel_rfl
 i9:=by kernel_rfl
 i46:=by kernel_rfl
 i51:=by kernel_rfl
 i146:=by kernel_rfl
 m1:=by kernel_rfl
 s1_3:=fun w h=>Go.Proofs.cell_of_shapedOpen_int (zero:=#[.int .i64 0]) (t:=3) h (of_decide_eq_true (by kernel_rfl)) (by kernel_rfl) rfl (by kernel_rfl) (by kernel_rfl) Tryz.underlying3 }
end Go.Proofs
namespace Go.Proofs.YthlofmnmacpogaaGreatDoor
open Go.RowKit
def wordsT:ByteArray:=⟨#[32,97,116,116,114,32,117,115,101,114,32,114,111,108,101,32,115,116,97,103,101,32,105,110,32,101,118,101,110,116,32,98,121,32,115,101,116,115,32,109,97,120,32,111,110,32,105,102,32,103,117,97,114,100,32,109,105,108,101,115,116,111,110,101,32,111,102,32,102,105,110,97,108,32,115,111,100,32,97,110,100,32,111,114,32,110,111,116,32,105,109,112,108,105,101,115,32,111,112,101,110,32,100,111,110,101,32,99,97,110,32,100,105,100,32,99,111,109,112,108,101,116,101,32,115,116,117,99,107,32,116,114,117,101,32,102,97,108,115,101,32,105,100,108,101,32,108,111,111,112,32,65,88,32,69,88,32,65,70,32,69,70,32,65,71,32,69,71,32,65,32,69,32,85,32]⟩
theorem wordsT_is:wordsT.data.toList=32 :: (wordsB.map (fun x=>x.data.toList)).flatMap (fun w=>w ++ [32]):=by decide +kernel
theorem wordsT_size:wordsT.size < 4294967281:=by decide +kernel
def spaceB (s:ByteArray):Bool:=decide (0≤Lib.indexByte s.data.toList 32)
theorem noSpace (l:List UInt8) (h:decide (0≤Lib.indexByte l 32)=false):∀ b ∈ l,b≠32:=by
 have h1:=of_decide_eq_false h
 have h2:=Lib.indexByte_ge l 32
 have h3:=Lib.indexByte_none (show Lib.indexByte l 32= -1 by omega)
 intro b hb e
 subst e
 obtain⟨k,hk⟩:=List.getElem?_of_mem hb
 exact h3 k hk
def MaxCell (w:World):Prop:=∃ m,w.cell? ⟨0,0,none⟩ = some (.int .i64 m)
theorem MaxCell.below {w w':World} {B:Nat} (h:MaxCell w) (hb:Below B w w') (hB:0 < B):MaxCell w':=by
 obtain⟨m,hm⟩:=h
 exact⟨m,(hb.cell (p:=⟨0,0,none⟩) hB).trans hm⟩
theorem words_noSpace:∀ w ∈ wordsB.map (fun x=>x.data.toList),∀ b ∈ w,b≠32:=by decide +kernel
theorem known_is (s:ByteArray) (h:spaceB s=false):Lib.contains wordsT.data.toList ((⟨#[32]⟩:ByteArray) ++s ++ (⟨#[32]⟩:ByteArray)).data.toList=knownB s:=by
 have e: ((⟨#[32]⟩:ByteArray) ++s ++ (⟨#[32]⟩:ByteArray)).data.toList=32 :: (s.data.toList ++ [32]):=by simp[ByteArray.data_append]
 rw[e,wordsT_is]
 unfold Lib.contains knownB
 rw[Bool.eq_iff_iff,decide_eq_true_iff,index_words _ _ (noSpace _ h) words_noSpace,List.any_eq_true]
 simp only[List.mem_map,decide_eq_true_eq]
 constructor
 · rintro⟨x,hx,hq⟩
   exact⟨x,hx,ByteArray.ext (Array.ext' hq)⟩
 · rintro⟨x,hx,rfl⟩
   exact⟨x,hx,rfl⟩
theorem known_space (s:ByteArray) (w:World) (hs:s.size≤4611686018427387904) (h0:0 < s.size) (h:spaceB s=true) :
 Calls Tryz.prog 84 #[.string s] w fun e w'=>e=.returned (.bool false)∧w=w':=by
 have H:=Lh h
 clear h
 have he: (s.toList == [])=false:=by
  rw[ByteArray.toList_eq]
  cases hq:s.data.toList with
  | nil=>have:s.data.toList.length=0:=by rw[hq];rfl
         have h2:s.data.toList.length=s.size:=by simp
         omega
  | cons a t=>rfl
 go_enter Tryz.func84,Tryz.ntmps84
 go_wp2_with fail
 refine(Tryz.strings_Contains_one s 32 _).mono ?_
 rintro e w' ⟨rfl,hw⟩
 subst hw
 rw[show decide (0≤Lib.indexByte s.data.toList 32)=true from H.out]
 go_wp2
 go_ret
 exact⟨rfl,rfl⟩
theorem known_empty (s:ByteArray) (w:World) (h0:s.size=0) :
 Calls Tryz.prog 84 #[.string s] w fun e w'=>e=.returned (.bool false)∧w=w':=by
 have he: (s.toList == [])=true:=by
  rw[ByteArray.toList_eq]
  cases hq:s.data.toList with
  | nil=>rfl
  | cons a t=>have h2:s.data.toList.length=s.size:=by simp
              rw[hq] at h2;simp at h2;omega
 go_enter Tryz.func84,Tryz.ntmps84
 go_wp2
 go_ret
 exact⟨rfl,rfl⟩
theorem known_full (s:ByteArray) (w:World) (hw0:MaxCell w) (hs:s.size≤4611686018427387904) (h0:0 < s.size) (h:spaceB s=false) :
 Calls Tryz.prog 84 #[.string s] w fun e w'=>e=.returned (.bool (knownB s))∧w=w':=by
 have H:=Lh h
 obtain⟨m,hm⟩:=hw0
 clear h
 have he: (s.toList == [])=false:=by
  rw[ByteArray.toList_eq]
  cases hq:s.data.toList with
  | nil=>have:s.data.toList.length=0:=by rw[hq];rfl
         have h2:s.data.toList.length=s.size:=by simp
         omega
  | cons a t=>rfl
 go_enter Tryz.func84,Tryz.ntmps84
 go_wp2_with fail
 refine(Tryz.strings_Contains_one s 32 _).mono ?_
 rintro e w' ⟨rfl,hw⟩
 subst hw
 rw[show decide (0≤Lib.indexByte s.data.toList 32)=false from H.out]
 go_wp2_with fail
 refine(Tryz.strings_Contains wordsT _ _ _ wordsT_size hm).mono ?_
 rintro e w' ⟨rfl,hw⟩
 subst hw
 rw[known_is s H.out]
 go_wp2
 go_ret
 exact⟨rfl,rfl⟩
theorem known_mem (s:ByteArray) (h:knownB s=true):s.data.toList ∈ wordsB.map (fun x=>x.data.toList):=by
 unfold knownB at h
 obtain⟨x,hx,hq⟩:=List.any_eq_true.1 h
 rw[←of_decide_eq_true hq]
 exact List.mem_map_of_mem hx
theorem known_any (s:ByteArray) (w:World) (hw0:MaxCell w) (hs:s.size≤4611686018427387904) :
 Calls Tryz.prog 84 #[.string s] w fun e w'=>e=.returned (.bool (knownB s))∧w=w':=by
 by_cases h0:s.size=0
 · have e:knownB s=false:=by
    refine Bool.eq_false_iff.2 fun h=>?_
    have hm:=known_mem s h
    have hl:s.data.toList= []:=List.length_eq_zero_iff.1 (by simpa using h0)
    rw[hl] at hm
    exact absurd hm (by decide +kernel)
   rw[e]
   exact known_empty s w h0
 · cases h:spaceB s
   · exact known_full s w hw0 hs (by omega) h
   · have e:knownB s=false:=by
      refine Bool.eq_false_iff.2 fun hk=>?_
      have hm:=words_noSpace _ (known_mem s hk)
      have h1:=of_decide_eq_true h
      obtain⟨o,ho⟩:=Int.eq_ofNat_of_zero_le h1
      have h2:=(Lib.indexByte_some ho).1
      exact hm 32 (List.mem_of_getElem? h2) rfl
     rw[e]
     exact known_space s w hs (by omega) h
def frAt (L:List Rn) (i:Nat):Nat:=match L[i]? with|some x=>x.fr|none=>0
def toAt (L:List Rn) (i:Nat):Nat:=match L[i]? with|some x=>x.to|none=>0
def lineAt (L:List Rn) (i:Nat):Int:=match L[i]? with|some x=>x.line|none=>0
def colAt (L:List Rn) (i:Nat):Int:=match L[i]? with|some x=>x.col|none=>0
theorem at_some {L:List Rn} {i:Nat} {x:Rn} (h:L[i]?=some x):rAt L i=x.r∧frAt L i=x.fr∧toAt L i=x.to∧lineAt L i=x.line∧colAt L i=x.col:=by
 unfold rAt frAt toAt lineAt colAt;rw[h];exact⟨rfl,rfl,rfl,rfl,rfl⟩
def txt (s:ByteArray) (L:List Rn) (i n:Nat):ByteArray:=s.extract (frAt L i) (toAt L (i+ (n - 1)))
def wordErr (t:ByteArray):Int:=if knownB t then 0 else if hasGreatB t then 1 else if 16 < t.size then 3 else 0
def wordKind (t:ByteArray):Int:=if knownB t then 2 else 1
def restB (c:Int):Bool:=decide (c≠10∧c≠ -1)
structure Res where
 er:Int
 line:Int
 col:Int
 i:Nat
 T:List Tk
def wordN (L:List Rn) (i:Nat):Nat:=rowE innerB L i - i
def numN (L:List Rn) (i:Nat):Nat:=rowE digitB L (i+1) - i
def wordT (s:ByteArray) (L:List Rn) (i:Nat) (T:List Tk):Res:=
 ⟨wordErr (txt s L i (wordN L i)),lineAt L i,colAt L i,i+wordN L i,T ++ [⟨wordKind (txt s L i (wordN L i)),txt s L i (wordN L i),0,lineAt L i,colAt L i⟩]⟩
def numVal (s:ByteArray) (L:List Rn) (i:Nat):Int × Bool:=valN (txt s L i (numN L i)) (decide (rAt L i=45))
def numbT (s:ByteArray) (L:List Rn) (i:Nat) (T:List Tk):Res:=
 ⟨if(numVal s L i).2 then 0 else 2,lineAt L i,colAt L i,i+numN L i,T ++ [⟨3,txt s L i (numN L i),(numVal s L i).1,lineAt L i,colAt L i⟩]⟩
def signT (s:ByteArray) (L:List Rn) (i:Nat) (T:List Tk):Res:=
 if signN (rAt L i) (rAt L (i+1))=0 then⟨1,lineAt L i,colAt L i,i,T⟩
 else⟨0,0,0,i+signN (rAt L i) (rAt L (i+1)),T ++ [⟨4,txt s L i (signN (rAt L i) (rAt L (i+1))),0,lineAt L i,colAt L i⟩]⟩
def restT (L:List Rn) (i:Nat) (T:List Tk):Res:=
 if rowE restB L i < L.length∧rAt L (rowE restB L i)= -1 then⟨1,lineAt L (rowE restB L i),colAt L (rowE restB L i),rowE restB L i,T⟩ else⟨0,0,0,rowE restB L i,T⟩
def isNum (L:List Rn) (i:Nat):Bool:=digitB (rAt L i) || (decide (rAt L i=45) && digitB (rAt L (i+1)))
def tokT (s:ByteArray) (L:List Rn) (i:Nat) (T:List Tk):Res:=
 if letterB (rAt L i) then wordT s L i T else if isNum L i then numbT s L i T else signT s L i T
def capT (L:List Rn) (i:Nat) (r:Res):Res:=if r.er≠0 then r else if 4096 < r.T.length then{ r with er:=3,line:=lineAt L i,col:=colAt L i } else r
def oneT (s:ByteArray) (L:List Rn) (i:Nat) (T:List Tk):Res:=
 if blankB (rAt L i) then⟨0,0,0,i+1,T⟩ else if rAt L i=35 then restT L i T else capT L i (tokT s L i T)
def runT (s:ByteArray) (L:List Rn):Nat→Nat→List Tk→Res
 | 0,i,T=>⟨0,0,0,i,T⟩
 | k+1,i,T=>if i < L.length then(if(oneT s L i T).er≠0 then oneT s L i T else runT s L k (oneT s L i T).i (oneT s L i T).T) else⟨0,0,0,i,T⟩
def faultV (er line col:Int):Value:=if er=0 then .agg #[.int .i64 0,.int .i64 0,.int .i64 0] else .agg #[.int .i64 er,.int .i64 line,.int .i64 col]
theorem faultV_ok (l c:Int):faultV 0 l c=.agg #[.int .i64 0,.int .i64 0,.int .i64 0]:=rfl
theorem faultV_no {er l c:Int} (h:er≠0):faultV er l c=.agg #[.int .i64 er,.int .i64 l,.int .i64 c]:=if_neg h
def Stepped (w:World) (B b:Nat) (s:ByteArray) (L:List Rn) (lv:Value) (r:Res) (e:Ending) (w':World):Prop:=
 e=.returned (faultV r.er r.line r.col)∧∃ ov,Took w w' B b s L lv r.i ov r.T
def FltAt (w:World) (b:Nat) (er line col:Int):Prop:=w.heap[b]?=some (.cells #[.int .i64 er,.int .i64 line,.int .i64 col] 28 (0,0))
theorem FltAt.facts {w:World} {b:Nat} {er line col:Int} (h:FltAt w b er line col) :
 w.cell? ⟨b,0,none⟩ = some (.int .i64 er)∧w.cell? ⟨b,1,none⟩ = some (.int .i64 line)∧w.cell? ⟨b,2,none⟩ = some (.int .i64 col)∧w.frozen? ⟨b,0,none⟩ = false∧w.frozen? ⟨b,1,none⟩ = false∧w.frozen? ⟨b,2,none⟩ = false:=by
 unfold FltAt at h
 refine⟨?_,?_,?_,?_,?_,?_⟩
 · simp[World.cell?,h]
 · simp[World.cell?,h]
 · simp[World.cell?,h]
 · simp[World.frozen?,h]
 · simp[World.frozen?,h]
 · simp[World.frozen?,h]
theorem FltAt.stored {w:World} {b:Nat} {er line col:Int} (h:FltAt w b er line col) (e' l' c':Int):FltAt (((w.setCell ⟨b,0,none⟩ (.int .i64 e')).setCell ⟨b,1,none⟩ (.int .i64 l')).setCell ⟨b,2,none⟩ (.int .i64 c')) b e' l' c':=by
 have h1:=heap_setCell_same w b 0 _ _ (.int .i64 e') h
 have h2:=heap_setCell_same _ b 1 _ _ (.int .i64 l') h1
 have h3:=heap_setCell_same _ b 2 _ _ (.int .i64 c') h2
 exact h3
theorem FltAt.lt {w:World} {b:Nat} {er line col:Int} (h:FltAt w b er line col):b < w.heap.size:=(Array.getElem?_eq_some_iff.1 h).1
theorem FltAt.below {w w':World} {b B:Nat} {er line col:Int} (h:FltAt w b er line col) (hb:Below B w w') (hB:b < B):FltAt w' b er line col:=(hb.block b hB).trans h
theorem FltAt.took {w w':World} {B b k:Nat} {s:ByteArray} {L:List Rn} {lv:Value} {i:Nat} {ov:Value} {T:List Tk} {er line col:Int} (h:FltAt w k er line col) (ht:Took w w' B b s L lv i ov T) (hkb:k≠b):FltAt w' k er line col:=
 ht.kept k _ h (fun e=>hkb (Option.some.inj e)) (fun c fz e=>by simp at e)
theorem FltAt.alloc {w:World} {k:Nat} {er line col:Int} (h:FltAt w k er line col) (o:Obj):FltAt (w.alloc o) k er line col:=(Below.heap_alloc _ _ _ h.lt).trans h
theorem FltAt.setOther {w:World} {k g j:Nat} {er line col:Int} (h:FltAt w k er line col) (hne:g≠k) (u:Value):FltAt (w.setCell ⟨g,j,none⟩ u) k er line col:=(Below.heap_setCell _ _ _ _ (by show k≠g;omega)).trans h
theorem FltAt.drewN {w:World} {k:Nat} {er line col:Int} (h:FltAt w k er line col) (n:Nat):FltAt (w.drewN n) k er line col:=h
theorem FltAt.ne_row {w:World} {k base sz n g cap:Nat} {e:TypeId} {er line col:Int} {xs:List Value} (h:FltAt w k er line col) (ho:w.ownsRow base e sz (.slice (some ⟨g,0,none⟩) n cap) n xs) (hne:28≠e):g≠k:=by
 intro e'
 subst e'
 exact owns_ne_block ho h hne rfl
theorem FltAt.new (w:World) (er line col:Int):FltAt (w.alloc (.cells #[.int .i64 er,.int .i64 line,.int .i64 col] 28)) w.heap.size er line col:=heap_alloc_new w _
theorem Took.of_rd {w:World} {B b:Nat} {s:ByteArray} {L:List Rn} {lv:Value} {i:Nat} {ov:Value} {T:List Tk} (h:Rd w B b s L lv i ov T):Took w w B b s L lv i ov T:=
 ⟨h,Below.refl _ _,Lib.OthersKept.refl _ _ _⟩
theorem kept_of_below {t:TypeId} {b:Option Nat} {w w':World} (h:Below w.heap.size w w'):Lib.OthersKept t b w w':=
 fun k _ hk _ _=>(h.block k (Array.getElem?_eq_some_iff.1 hk).1).trans hk
theorem Took.after {w w1 w':World} {B b:Nat} {s:ByteArray} {L:List Rn} {lv:Value} {i:Nat} {ov:Value} {T:List Tk} (h:Took w1 w' B b s L lv i ov T) (hb:Below w.heap.size w w1) (hB:B≤w.heap.size):Took w w' B b s L lv i ov T:=
 ⟨h.rd,(hb.mono hB).trans h.low,(kept_of_below hb).trans h.kept⟩
theorem Took.then {w w1 w':World} {B b:Nat} {s:ByteArray} {L:List Rn} {lv:Value} {i:Nat} {ov:Value} {T:List Tk} (h:Took w w1 B b s L lv i ov T) (hb:Below w1.heap.size w1 w') (hB:B≤w.heap.size):Took w w' B b s L lv i ov T:=
 ⟨h.rd.keep hb,h.low.trans (hb.mono (Nat.le_trans hB h.low.size)),h.kept.trans (kept_of_below hb)⟩
theorem owns_setCell {w:World} {base:Nat} {e t:TypeId} {sz:Nat} {v:Value} {n k:Nat} {xs:List Value} {cs:Array Value} {fr:Nat × Nat} (h:w.ownsRow base e sz v n xs) (hk:w.heap[k]?=some (.cells cs t fr)) (hne:t≠e) (j:Nat) (u:Value) :
 (w.setCell ⟨k,j,none⟩ u).ownsRow base e sz v n xs:=by
 have hnb:=owns_ne_block h hk hne
 refine⟨h.1,?_⟩
 rcases h.2 with hn| ⟨g,cap,cur,hv,hBg,hgg,r⟩
 · exact .inl hn
 · exact .inr ⟨g,cap,cur,hv,hBg,(Below.heap_setCell _ _ _ _ (by show g≠k;intro e';exact hnb (by rw[hv,e'];rfl))).trans hgg,r⟩
theorem Took.setNew {w w':World} {B b:Nat} {s:ByteArray} {L:List Rn} {lv:Value} {i:Nat} {ov:Value} {T:List Tk} (h:Took w w' B b s L lv i ov T) {k:Nat} (hk:w.heap.size≤k) (hb:b < w.heap.size) (hB:B≤w.heap.size)
 {cs:Array Value} {t:TypeId} {fr:Nat × Nat} (ho:w'.heap[k]?=some (.cells cs t fr)) (h1:t≠48) (h2:t≠96) (j:Nat) (u:Value):Took w (w'.setCell ⟨k,j,none⟩ u) B b s L lv i ov T:=by
 refine⟨⟨?_,h.rd.low,owns_setCell h.rd.run ho h2 j u,owns_setCell h.rd.out ho h1 j u⟩,h.low.setCell (p:=⟨k,j,none⟩) (by show B≤k;omega) _,?_⟩
 · rw[Below.heap_setCell _ _ _ _ (by show b≠k;omega)];exact h.rd.blk
 · intro q o hq hqb hqo
   rw[Below.heap_setCell _ _ _ _ (by show q≠k;have:=(Array.getElem?_eq_some_iff.1 hq).1;omega)]
   exact h.kept q o hq hqb hqo
theorem Took.stored {w w':World} {B b:Nat} {s:ByteArray} {L:List Rn} {lv:Value} {i:Nat} {ov:Value} {T:List Tk} (h:Took w w' B b s L lv i ov T) {k:Nat} (hk:w.heap.size≤k) (hb:b < w.heap.size) (hB:B≤w.heap.size)
 {er line col:Int} (ho:FltAt w' k er line col) (e' l' c':Int):Took w (((w'.setCell ⟨k,0,none⟩ (.int .i64 e')).setCell ⟨k,1,none⟩ (.int .i64 l')).setCell ⟨k,2,none⟩ (.int .i64 c')) B b s L lv i ov T:=by
 have h1:=heap_setCell_same w' k 0 _ _ (.int .i64 e') ho
 have h2:=heap_setCell_same _ k 1 _ _ (.int .i64 l') h1
 exact((h.setNew hk hb hB ho (by decide) (by decide) 0 _).setNew hk hb hB h1 (by decide) (by decide) 1 _).setNew hk hb hB h2 (by decide) (by decide) 2 _
theorem owns_setIn {w:World} {base:Nat} {e:TypeId} {sz n g cap:Nat} {xs:List Value} (h:w.ownsRow base e sz (.slice (some ⟨g,0,none⟩) n cap) n xs) (j:Nat) (u:Value) (_hj:j < n * sz) :
 (w.setCell ⟨g,j,none⟩ u).ownsRow base e sz (.slice (some ⟨g,0,none⟩) n cap) n (xs.set j u):=by
 refine⟨by rw[List.length_set];exact h.1,?_⟩
 rcases h.2 with⟨e,_⟩ | ⟨g',cap',cur,hv,hBg,hgg,a,b,c,d⟩
 · simp at e
 · simp only[Value.slice.injEq,Option.some.injEq,Addr.mk.injEq,true_and,and_true] at hv
   obtain⟨rfl,rfl⟩:=hv
   refine .inr ⟨g,cap,cur.setIfInBounds j u,rfl,hBg,heap_setCell_same w g j cur e u hgg,a,b,by simpa using c,?_⟩
   rw[←d,Array.toList_setIfInBounds,List.take_set]
theorem Took.setTok {w w':World} {B b g cap:Nat} {s:ByteArray} {L:List Rn} {lv:Value} {i:Nat} {T:List Tk} {x y:Tk} {j:Nat} {u:Value} (h:Took w w' B b s L lv i (.slice (some ⟨g,0,none⟩) (T.length+1) cap) (T ++ [x]))
 (hj:j < 5) (hy: (tkCells x).set j u=tkCells y):Took w (w'.setCell ⟨g,T.length * 5+j,none⟩ u) B b s L lv i (.slice (some ⟨g,0,none⟩) (T.length+1) cap) (T ++ [y]):=by
 have ho:=h.rd.out
 rw[show(T ++ [x]).length=T.length+1 by simp] at ho
 have hgB:=(ho.lt g rfl).1
 have hgg:∃ cs,w'.heap[g]?=some (.cells cs 48 (0,0)):=by
  rcases ho.2 with⟨e,_⟩ | ⟨g',cap',cur,hv,_,hg,_⟩
  · simp at e
  · simp only[Value.slice.injEq,Option.some.injEq,Addr.mk.injEq,true_and,and_true] at hv
    obtain⟨rfl,_⟩:=hv
    exact⟨_,hg⟩
 obtain⟨cs,hgg⟩:=hgg
 have hgb:g≠b:=by
  intro e
  have:=h.rd.blk
  rw[←e,hgg] at this
  simp at this
 refine⟨⟨?_,h.rd.low,owns_setCell h.rd.run hgg (by decide) _ u,?_⟩,h.low.setCell (p:=⟨g,T.length * 5+j,none⟩) hgB _,?_⟩
 · rw[Below.heap_setCell _ _ _ _ (by show b≠g;omega)];exact h.rd.blk
 · rw[show(T ++ [y]).length=T.length+1 by simp]
   rw[←tkFlat_last T j x y u hj hy]
   exact owns_setIn ho _ u (by omega)
 · intro q o hq hqb hqo
   rw[Below.heap_setCell _ _ _ _ (by show q≠g;intro e;subst e;have h9:=h.kept q o hq hqb hqo;rw[hgg] at h9;exact hqo _ _ (Option.some.inj h9).symm)]
   exact h.kept q o hq hqb hqo
theorem Took.last {w w':World} {B b g cap:Nat} {s:ByteArray} {L:List Rn} {lv:Value} {i:Nat} {T:List Tk} {x:Tk} (h:Took w w' B b s L lv i (.slice (some ⟨g,0,none⟩) (T.length+1) cap) (T ++ [x])) :
 w'.cell? ⟨g,T.length * 5,none⟩ = some (.int .i64 x.kind)∧w'.cell? ⟨g,T.length * 5+1,none⟩ = some (.string x.text)∧w'.cell? ⟨g,T.length * 5+2,none⟩ = some (.int .i64 x.num)∧
  w'.frozen? ⟨g,T.length * 5,none⟩ = false∧w'.frozen? ⟨g,T.length * 5+2,none⟩ = false∧g < w'.heap.size∧∀ k er l c,FltAt w' k er l c→g≠k:=by
 have ho:=h.rd.out
 rw[List.length_append,List.length_singleton] at ho
 have hx: (T ++ [x])[T.length]?=some x:=by simp
 exact⟨(World.ownsRow.cellAt ho (T.length * 5) (by omega)).trans (tkFlat_get _ T.length 0 x hx (by omega)),(World.ownsRow.cellAt ho (T.length * 5+1) (by omega)).trans (tkFlat_get _ T.length 1 x hx (by omega)),
  (World.ownsRow.cellAt ho (T.length * 5+2) (by omega)).trans (tkFlat_get _ T.length 2 x hx (by omega)),World.ownsRow.frozenAt ho _,World.ownsRow.frozenAt ho _,(ho.lt g rfl).2,fun k _ _ _ hf=>hf.ne_row ho (by decide)⟩
end Go.Proofs.YthlofmnmacpogaaGreatDoor
