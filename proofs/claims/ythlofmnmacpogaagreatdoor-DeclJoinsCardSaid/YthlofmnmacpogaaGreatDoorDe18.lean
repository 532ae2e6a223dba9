/- Contract of warderref02's value. Contracts of warderref02's words and Known. Contract of strings.TrimPrefix at a -, for token's value. Contract of token's value. Plain: a text between spaces in a row of words. Contract of token's Known. -/
import Derived.Test.YthlofmnmacpogaaGreatDoorDe17
import Derived.Lib.Strings
import Derived.Lib.IndexMore
import Derived.Test.YthlofmnmacpogaaGreatDoorShelf
import Derived.Lib.IndexLaws

namespace Go.Proofs.YthlofmnmacpogaaGreatDoor
open Go.RowKit

theorem ret_val {a c : Int} {b d : Bool} (h1 : a = c) (h2 : b = d) : Ending.returned (.tuple #[.int .i64 a, .bool b]) = .returned (.tuple #[.int .i64 c, .bool d]) := by rw [h1, h2]

set_option maxHeartbeats 2000000 in
theorem rvalue_pos (s : ByteArray) (w : World) (hs : s.size ≤ 4294967296) (h0 : 0 < s.size) (hn : NumT s) (hb : (s[0]'h0).toNat ≠ 45) :
    Calls Tryz.prog 70 #[.string s] w fun e w' => e = .returned (.tuple #[.int .i64 (valN s false).1, .bool (valN s false).2]) ∧ w = w' := by
  obtain ⟨c0, hc0⟩ : ∃ c, (s[0]'h0).toNat = c := ⟨_, rfl⟩
  have hcb : ((c0 : Int) == 45) = false := beq_eq_false_iff_ne.2 (by omega)
  have HN := Lib.hid hn
  clear hn hb
  go_enter Tryz.func70, Tryz.ntmps70
  go_wp2
  go_loop [5, 6, 7] (fun n i _ => ∃ (k m : Nat), k ≤ s.size ∧ i = .int .i64 k ∧ n = .int .i64 m ∧ m ≤ 9223372036854775807 ∧ Hid (numV (s.data.toList.take k) = m)) (fun _ i _ => s.size - (intOf i).toNat)
  case atStart => exact ⟨0, 0, Nat.zero_le _, rfl, rfl, by omega, rfl⟩
  case round =>
    obtain ⟨k, m, hk, rfl, rfl, hm, HE⟩ := hrel
    by_cases hlt : k < s.size
    · obtain ⟨c, hc⟩ : ∃ c, (s[k]'hlt).toNat = c := ⟨_, rfl⟩
      have hstep : numV (s.data.toList.take (k + 1)) = if c = 45 then m else m * 10 + (c - 48) := by
        rw [numV_next s k hlt, HE.out]; unfold stepV; rw [hc]
      have hd : c = 45 ∨ (48 ≤ c ∧ c ≤ 57) := by rw [← hc]; exact HN.out k hlt
      by_cases hc45 : c = 45
      · subst hc45
        have HS := Lib.hid hstep; clear hstep
        go_wp2
        go_round
        case rel => exact ⟨k + 1, m, by omega, by go_num, rfl, hm, Lib.hid (by simpa using HS.out)⟩
        case measure => simp [intOf]; omega
      · have hcf : ((c : Int) == 45) = false := beq_eq_false_iff_ne.2 (by omega)
        rw [if_neg hc45] at hstep
        obtain ⟨hd1, hd2⟩ : 48 ≤ c ∧ c ≤ 57 := by omega
        rcases Nat.lt_trichotomy m 922337203685477580 with hmk | hmk | hmk
        · have HS := Lib.hid hstep; clear hstep
          have hm1 : ((m : Int) == 922337203685477580) = false := beq_eq_false_iff_ne.2 (by omega)
          go_wp2
          go_round
          case rel => exact ⟨k + 1, m * 10 + (c - 48), by omega, by go_num, by go_num, by omega, HS⟩
          case measure => simp [intOf]; omega
        · subst hmk
          by_cases hc7 : c ≤ 55
          · have HS := Lib.hid hstep; clear hstep
            go_wp2
            go_round
            case rel => exact ⟨k + 1, 922337203685477580 * 10 + (c - 48), by omega, by go_num, by go_num, by omega, HS⟩
            case measure => simp [intOf]; omega
          · have HF : Hid (valN s false = (0, false)) := by
              refine Lib.hid ?_
              have := numV_take s.data.toList (k + 1)
              unfold valN
              rw [if_neg (by simp), if_neg (by omega)]
            clear hstep
            go_wp2
            go_ret2
            exact ⟨ret_val (by rw [HF.out]) (by rw [HF.out]), rfl⟩
        · have HF : Hid (valN s false = (0, false)) := by
            refine Lib.hid ?_
            have := numV_take s.data.toList (k + 1)
            unfold valN
            rw [if_neg (by simp), if_neg (by omega)]
          clear hstep
          go_wp2
          go_ret2
          exact ⟨ret_val (by rw [HF.out]) (by rw [HF.out]), rfl⟩
    · have HF : Hid (valN s false = ((m : Int), true)) := by
        refine Lib.hid ?_
        have := HE.out
        rw [List.take_of_length_le (by simp; omega)] at this
        unfold valN
        rw [if_neg (by simp), this, if_pos (by omega)]
      go_wp2
      go_ret2
      exact ⟨ret_val (by rw [HF.out]) (by rw [HF.out]), rfl⟩

set_option maxHeartbeats 2000000 in
theorem rvalue_neg (s : ByteArray) (w : World) (hs : s.size ≤ 4294967296) (h0 : 0 < s.size) (hn : NumT s) (hb : (s[0]'h0).toNat = 45) :
    Calls Tryz.prog 70 #[.string s] w fun e w' => e = .returned (.tuple #[.int .i64 (valN s true).1, .bool (valN s true).2]) ∧ w = w' := by
  obtain ⟨c0, hc0⟩ : ∃ c, (s[0]'h0).toNat = c := ⟨_, rfl⟩
  have hcb : ((c0 : Int) == 45) = true := by rw [beq_iff_eq]; omega
  have HN := Lib.hid hn
  clear hn hb
  go_enter Tryz.func70, Tryz.ntmps70
  go_wp2
  go_loop [5, 6, 7] (fun n i _ => ∃ (k m : Nat), k ≤ s.size ∧ i = .int .i64 k ∧ n = .int .i64 (-(m : Int)) ∧ m ≤ 9223372036854775808 ∧ Hid (numV (s.data.toList.take k) = m)) (fun _ i _ => s.size - (intOf i).toNat)
  case atStart => exact ⟨0, 0, Nat.zero_le _, rfl, rfl, by omega, rfl⟩
  case round =>
    obtain ⟨k, m, hk, rfl, rfl, hm, HE⟩ := hrel
    by_cases hlt : k < s.size
    · obtain ⟨c, hc⟩ : ∃ c, (s[k]'hlt).toNat = c := ⟨_, rfl⟩
      have hstep : numV (s.data.toList.take (k + 1)) = if c = 45 then m else m * 10 + (c - 48) := by
        rw [numV_next s k hlt, HE.out]; unfold stepV; rw [hc]
      have hd : c = 45 ∨ (48 ≤ c ∧ c ≤ 57) := by rw [← hc]; exact HN.out k hlt
      by_cases hc45 : c = 45
      · subst hc45
        have HS := Lib.hid hstep; clear hstep
        go_wp2
        go_round
        case rel => exact ⟨k + 1, m, by omega, by go_num, rfl, hm, Lib.hid (by simpa using HS.out)⟩
        case measure => simp [intOf]; omega
      · have hcf : ((c : Int) == 45) = false := beq_eq_false_iff_ne.2 (by omega)
        rw [if_neg hc45] at hstep
        obtain ⟨hd1, hd2⟩ : 48 ≤ c ∧ c ≤ 57 := by omega
        rcases Nat.lt_trichotomy m 922337203685477580 with hmk | hmk | hmk
        · have HS := Lib.hid hstep; clear hstep
          have hm1 : ((-(m : Int)) == -922337203685477580) = false := beq_eq_false_iff_ne.2 (by omega)
          go_wp2
          go_round
          case rel => exact ⟨k + 1, m * 10 + (c - 48), by omega, by go_num, by go_num, by omega, HS⟩
          case measure => simp [intOf]; omega
        · subst hmk
          by_cases hc7 : c ≤ 56
          · have HS := Lib.hid hstep; clear hstep
            go_wp2
            go_round
            case rel => exact ⟨k + 1, 922337203685477580 * 10 + (c - 48), by omega, by go_num, by go_num, by omega, HS⟩
            case measure => simp [intOf]; omega
          · have HF : Hid (valN s true = (0, false)) := by
              refine Lib.hid ?_
              have := numV_take s.data.toList (k + 1)
              unfold valN
              rw [if_pos rfl, if_neg (by omega)]
            clear hstep
            go_wp2
            go_ret2
            exact ⟨ret_val (by rw [HF.out]) (by rw [HF.out]), rfl⟩
        · have HF : Hid (valN s true = (0, false)) := by
            refine Lib.hid ?_
            have := numV_take s.data.toList (k + 1)
            unfold valN
            rw [if_pos rfl, if_neg (by omega)]
          clear hstep
          go_wp2
          go_ret2
          exact ⟨ret_val (by rw [HF.out]) (by rw [HF.out]), rfl⟩
    · have HF : Hid (valN s true = (-(m : Int), true)) := by
        refine Lib.hid ?_
        have := HE.out
        rw [List.take_of_length_le (by simp; omega)] at this
        unfold valN
        rw [if_pos rfl, this, if_pos (by omega)]
      go_wp2
      go_ret2
      exact ⟨ret_val (by rw [HF.out]) (by rw [HF.out]), rfl⟩

theorem rvalue_any (s : ByteArray) (w : World) (hs : s.size ≤ 4294967296) (h0 : 0 < s.size) (hn : NumT s) :
    Calls Tryz.prog 70 #[.string s] w fun e w' => e = .returned (.tuple #[.int .i64 (valN s (decide ((s[0]'h0).toNat = 45))).1, .bool (valN s (decide ((s[0]'h0).toNat = 45))).2]) ∧ w = w' := by
  by_cases hb : (s[0]'h0).toNat = 45
  · rw [decide_eq_true hb]; exact rvalue_neg s w hs h0 hn hb
  · rw [decide_eq_false hb]; exact rvalue_pos s w hs h0 hn hb

end Go.Proofs.YthlofmnmacpogaaGreatDoor

namespace Go.Proofs.YthlofmnmacpogaaGreatDoor
open Go.RowKit

/-- the language's words -/
def wordsB : List ByteArray :=
  [{ data := #[97, 116, 116, 114] },
   { data := #[117, 115, 101, 114] },
   { data := #[114, 111, 108, 101] },
   { data := #[115, 116, 97, 103, 101] },
   { data := #[105, 110] },
   { data := #[101, 118, 101, 110, 116] },
   { data := #[98, 121] },
   { data := #[115, 101, 116, 115] },
   { data := #[109, 97, 120] },
   { data := #[111, 110] },
   { data := #[105, 102] },
   { data := #[103, 117, 97, 114, 100] },
   { data := #[109, 105, 108, 101, 115, 116, 111, 110, 101] },
   { data := #[111, 102] },
   { data := #[102, 105, 110, 97, 108] },
   { data := #[115, 111, 100] },
   { data := #[97, 110, 100] },
   { data := #[111, 114] },
   { data := #[110, 111, 116] },
   { data := #[105, 109, 112, 108, 105, 101, 115] },
   { data := #[111, 112, 101, 110] },
   { data := #[100, 111, 110, 101] },
   { data := #[99, 97, 110] },
   { data := #[100, 105, 100] },
   { data := #[99, 111, 109, 112, 108, 101, 116, 101] },
   { data := #[115, 116, 117, 99, 107] },
   { data := #[116, 114, 117, 101] },
   { data := #[102, 97, 108, 115, 101] },
   { data := #[105, 100, 108, 101] },
   { data := #[108, 111, 111, 112] },
   { data := #[65, 88] },
   { data := #[69, 88] },
   { data := #[65, 70] },
   { data := #[69, 70] },
   { data := #[65, 71] },
   { data := #[69, 71] },
   { data := #[65] },
   { data := #[69] },
   { data := #[85] }]

/-- is a text a word of the language? -/
def knownB (s : ByteArray) : Bool := wordsB.any (fun x => decide (x = s))

theorem cells_lit (w : World) (us : Array Value) (e : TypeId) (t : Nat) (x : Value) (h : us.toList[t]? = some x) : (w.alloc (.cells us e)).cell? ⟨w.heap.size, 0 + t, none⟩ = some x := by
  rw [World.cell?_alloc_at _ _ _ _ rfl, Nat.zero_add]
  simpa using h

theorem beq_bytes (x s : ByteArray) : (x.toList == s.toList) = decide (x = s) := by
  rw [ByteArray.toList_eq, ByteArray.toList_eq, Bool.eq_iff_iff, beq_iff_eq, decide_eq_true_iff]
  constructor
  · intro h
    exact ByteArray.ext (Array.ext' h)
  · rintro rfl
    rfl

theorem words_len : wordsB.length = 39 := rfl

set_option maxRecDepth 100000 in
set_option maxHeartbeats 1000000 in
theorem rwords_any (w : World) :
    Calls Tryz.prog 88 #[] w fun e w' => e = .returned (.slice (some ⟨w.heap.size, 0, none⟩) 39 39) ∧ (∀ t x, (wordsB.map Value.string)[t]? = some x → w'.cell? ⟨w.heap.size, 0 + t, none⟩ = some x) ∧ Below w.heap.size w w' := by
  go_enter Tryz.func88, Tryz.ntmps88
  go_wp2_with fail
  go_ret
  exact ⟨rfl, fun t x hx => cells_lit _ _ _ t x hx, (Below.refl _ _).alloc (Nat.le_refl _) _⟩

set_option maxHeartbeats 1000000 in
theorem rknown_any (s : ByteArray) (w : World) :
    Calls Tryz.prog 68 #[.string s] w fun e w' => e = .returned (.bool (knownB s)) ∧ Below w.heap.size w w' := by
  go_enter Tryz.func68, Tryz.ntmps68
  go_wp2_with fail
  refine (rwords_any _).mono ?_
  rintro e w1 ⟨rfl, hc, hb⟩
  have HC := Lib.hid hc
  have HB := Lib.hid hb
  clear hc hb
  go_wp2
  go_loop [4] (fun i => ∃ k : Nat, k ≤ 39 ∧ i = .int .i64 k ∧ Hid ((wordsB.take k).any (fun x => decide (x = s)) = false)) (fun i => 39 - (intOf i).toNat)
  case atStart => exact ⟨0, Nat.zero_le _, rfl, rfl⟩
  case round =>
    obtain ⟨k, hk, rfl, HE⟩ := hrel
    by_cases hlt : k < 39
    · obtain ⟨x, hx⟩ : ∃ x, wordsB[k]? = some x := ⟨_, List.getElem?_eq_getElem (by rw [words_len]; exact hlt)⟩
      have hcell : w1.cell? ⟨w.heap.size, k, none⟩ = some (.string x) := by rw [← HC.out k _ (by rw [List.getElem?_map, hx]; rfl), Nat.zero_add]
      have hsn : (wordsB.take (k + 1)).any (fun x => decide (x = s)) = decide (x = s) := by
        rw [List.take_add_one, hx, List.any_append, HE.out]; simp
      have hyes : decide (x = s) = true → knownB s = true := by
        intro hg
        rw [hg] at hsn
        unfold knownB
        obtain ⟨y, hy, hp⟩ := List.any_eq_true.1 hsn
        exact List.any_eq_true.2 ⟨y, List.mem_of_mem_take hy, hp⟩
      clear hx
      cases hg : decide (x = s)
      · rw [hg] at hsn
        have hl : (x.toList == s.toList) = false := by rw [beq_bytes]; exact hg
        have HS := Lib.hid hsn
        clear hsn hyes
        go_wp2
        go_round
        case rel => exact ⟨k + 1, by omega, by go_num, HS⟩
        case measure => simp [intOf]; omega
      · have hl : (x.toList == s.toList) = true := by rw [beq_bytes]; exact hg
        have HY := Lib.hid (hyes hg)
        clear hsn hyes
        go_wp2
        go_ret
        exact ⟨ret_bool HY.out.symm, HB.out⟩
    · obtain rfl : k = 39 := by omega
      have HF : Hid (knownB s = false) := Lib.hid (by have := HE.out; rwa [List.take_of_length_le (by rw [words_len]; exact Nat.le_refl _)] at this)
      go_wp2
      go_ret
      exact ⟨ret_bool HF.out.symm, HB.out⟩

end Go.Proofs.YthlofmnmacpogaaGreatDoor

namespace Go.Proofs.YthlofmnmacpogaaGreatDoor
open Go.RowKit

theorem bytes_cons (s : ByteArray) (h0 : 0 < s.size) : s.data.toList = s[0]'h0 :: s.data.toList.drop 1 := by
  have h : 0 < s.data.toList.length := by simpa using h0
  rw [List.drop_one]
  exact (List.cons_head_tail (List.ne_nil_of_length_pos h)).symm.trans (by rw [List.head_eq_getElem]; rfl)

theorem dash_is (s : ByteArray) (h0 : 0 < s.size) : ((s.extract 0 1).toList == [45]) = decide ((s[0]'h0).toNat = 45) := by
  rw [show ([45] : List UInt8) = (⟨#[45]⟩ : ByteArray).toList by rw [ByteArray.toList_eq], beq_bytes, Bool.eq_iff_iff, decide_eq_true_iff, decide_eq_true_iff]
  have h1 : (s.extract 0 1).data.toList = [s[0]'h0] := by rw [Lib.extract_data, List.drop_zero, bytes_cons s h0]; rfl
  constructor
  · intro h
    have : [s[0]'h0] = [45] := by rw [← h1, h]
    rw [List.cons.inj this |>.1]; rfl
  · intro h
    refine ByteArray.ext (Array.ext' ?_)
    rw [h1]
    have : s[0]'h0 = 45 := UInt8.toNat_inj.1 h
    rw [this]

set_option maxHeartbeats 1000000 in
theorem dash_any (s : ByteArray) (h0 : 0 < s.size) (w : World) (hs : s.size ≤ 4294967296) :
    Calls Tryz.prog 133 #[.string s, .string ⟨#[45]⟩] w fun e w' => e = .returned (.bool (decide ((s[0]'h0).toNat = 45))) ∧ w = w' := by
  have HD := Lib.hid (dash_is s h0)
  go_enter Tryz.func133, Tryz.ntmps133
  go_wp2
  go_ret
  exact ⟨ret_bool HD.out, rfl⟩

/-- the text without its - -/
def noDash (s : ByteArray) (below : Bool) : ByteArray := if below then s.extract 1 s.size else s

set_option maxHeartbeats 1000000 in
theorem trimS_any (s : ByteArray) (h0 : 0 < s.size) (w : World) (hs : s.size ≤ 4294967296) :
    Calls Tryz.prog 117 #[.string s, .string ⟨#[45]⟩] w fun e w' => e = .returned (.string (noDash s (decide ((s[0]'h0).toNat = 45)))) ∧ w = w' := by
  cases hb : decide ((s[0]'h0).toNat = 45)
  · go_enter Tryz.func117, Tryz.ntmps117
    go_wp2_with fail
    refine (dash_any s h0 _ hs).mono ?_
    rintro e w' ⟨rfl, rfl⟩
    rw [hb]
    go_wp2
    go_ret
    exact ⟨rfl, rfl⟩
  · go_enter Tryz.func117, Tryz.ntmps117
    go_wp2_with fail
    refine (dash_any s h0 _ hs).mono ?_
    rintro e w' ⟨rfl, rfl⟩
    rw [hb]
    go_wp2
    go_ret
    exact ⟨rfl, rfl⟩

set_option maxHeartbeats 1000000 in
theorem trim_any (s : ByteArray) (h0 : 0 < s.size) (w : World) (hs : s.size ≤ 4294967296) :
    Calls Tryz.prog 100 #[.string s, .string ⟨#[45]⟩] w fun e w' => e = .returned (.string (noDash s (decide ((s[0]'h0).toNat = 45)))) ∧ w = w' := by
  go_enter Tryz.func100, Tryz.ntmps100
  go_wp2_with fail
  refine (trimS_any s h0 _ hs).mono ?_
  rintro e w' ⟨rfl, rfl⟩
  go_wp2
  go_ret
  exact ⟨rfl, rfl⟩

end Go.Proofs.YthlofmnmacpogaaGreatDoor

namespace Go.Proofs.YthlofmnmacpogaaGreatDoor
open Go.RowKit

/-- bytes that are digits -/
def DigT (s : ByteArray) : Prop := ∀ (k : Nat) (h : k < s.size), 48 ≤ (s[k]'h).toNat ∧ (s[k]'h).toNat ≤ 57

theorem tdiv_dash (c : Nat) (h1 : 48 ≤ c) (h2 : c ≤ 57) : (-9223372036854775808 + ((c : Int) - 48)).tdiv 10 = -((9223372036854775808 - ((c : Int) - 48)) / 10) := by
  rw [show (-9223372036854775808 + ((c : Int) - 48)) = -(9223372036854775808 - ((c : Int) - 48)) by omega, Int.neg_tdiv, Int.tdiv_eq_ediv_of_nonneg (by omega)]

set_option maxHeartbeats 2000000 in
theorem value_pos (s : ByteArray) (w : World) (hs : s.size ≤ 4294967296) (h0 : 0 < s.size) (hn : DigT s) :
    Calls Tryz.prog 86 #[.string s] w fun e w' => e = .returned (.tuple #[.int .i64 (valN s false).1, .bool (valN s false).2]) ∧ w = w' := by
  have hb : decide ((s[0]'h0).toNat = 45) = false := decide_eq_false (by have := hn 0 h0; omega)
  have HN := Lib.hid hn
  clear hn
  go_enter Tryz.func86, Tryz.ntmps86
  go_wp2_with fail
  refine (trim_any s h0 _ hs).mono ?_
  rintro e w' ⟨rfl, rfl⟩
  rw [hb, show noDash s false = s from rfl]
  go_wp2
  go_loop [5, 6, 7, 12] (fun n _ _ i => ∃ (k m : Nat), k ≤ s.size ∧ i = .int .i64 k ∧ n = .int .i64 (-(m : Int)) ∧ m ≤ 9223372036854775808 ∧ Hid (numV (s.data.toList.take k) = m)) (fun _ _ _ i => s.size - (intOf i).toNat)
  case atStart => exact ⟨0, 0, Nat.zero_le _, rfl, rfl, by omega, rfl⟩
  case round =>
    obtain ⟨k, m, hk, rfl, rfl, hm, HE⟩ := hrel
    by_cases hlt : k < s.size
    · obtain ⟨c, hc⟩ : ∃ c, (s[k]'hlt).toNat = c := ⟨_, rfl⟩
      have hd : 48 ≤ c ∧ c ≤ 57 := by rw [← hc]; exact HN.out k hlt
      have hstep : numV (s.data.toList.take (k + 1)) = m * 10 + (c - 48) := by
        rw [numV_next s k hlt, HE.out]; unfold stepV; rw [hc, if_neg (by omega)]
      have ht := tdiv_dash c hd.1 hd.2
      by_cases hover : m * 10 + (c - 48) ≤ 9223372036854775808
      · have HS := Lib.hid hstep; clear hstep
        have hq : ¬ (-(m : Int) < (-9223372036854775808 + ((c : Int) - 48)).tdiv 10) := by rw [ht]; omega
        clear ht
        obtain ⟨hd1, hd2⟩ := hd
        go_wp2
        go_round
        case rel => exact ⟨k + 1, m * 10 + (c - 48), by omega, by go_num, by go_num, by omega, HS⟩
        case measure => simp [intOf]; omega
      · have hq : (-(m : Int) < (-9223372036854775808 + ((c : Int) - 48)).tdiv 10) := by rw [ht]; omega
        have HF : Hid (valN s false = (0, false)) := by
          refine Lib.hid ?_
          have := numV_take s.data.toList (k + 1)
          unfold valN
          rw [if_neg (by simp), if_neg (by omega)]
        clear ht hstep hover
        obtain ⟨hd1, hd2⟩ := hd
        go_wp2
        go_ret2
        exact ⟨ret_val (by rw [HF.out]) (by rw [HF.out]), rfl⟩
    · have he : numV s.data.toList = m := by
        have := HE.out
        rwa [List.take_of_length_le (by simp; omega)] at this
      have hl : (s.toList == s.toList) = true := by simp
      by_cases hmm : m = 9223372036854775808
      · have HF : Hid (valN s false = (0, false)) := by
          refine Lib.hid ?_
          unfold valN
          rw [if_neg (by simp), he, if_neg (by omega)]
        have hm1 : ((-(m : Int)) == -9223372036854775808) = true := by rw [beq_iff_eq]; omega
        clear he
        go_wp2
        go_ret2
        exact ⟨ret_val (by rw [HF.out]) (by rw [HF.out]), rfl⟩
      · have HF : Hid (valN s false = ((m : Int), true)) := by
          refine Lib.hid ?_
          unfold valN
          rw [if_neg (by simp), he, if_pos (by omega)]
        have hm1 : ((-(m : Int)) == -9223372036854775808) = false := beq_eq_false_iff_ne.2 (by omega)
        clear he
        go_wp2
        go_ret2
        exact ⟨ret_val (by first | (rw [HF.out]; done) | (rw [HF.out]; simp)) (by rw [HF.out]), rfl⟩

theorem numV_dash (s : ByteArray) (h0 : 0 < s.size) (h : (s[0]'h0).toNat = 45) : numV (s.extract 1 s.size).data.toList = numV s.data.toList := by
  rw [Lib.extract_data, List.take_of_length_le (by simp)]
  conv => rhs; rw [bytes_cons s h0]
  show _ = (s.data.toList.drop 1).foldl stepV (stepV 0 (s[0]'h0))
  unfold stepV
  rw [if_pos h]
  rfl

set_option maxHeartbeats 2000000 in
theorem value_neg (s : ByteArray) (w : World) (hs : s.size ≤ 4294967296) (h0 : 0 < s.size) (hb0 : (s[0]'h0).toNat = 45) (hn : DigT (s.extract 1 s.size)) :
    Calls Tryz.prog 86 #[.string s] w fun e w' => e = .returned (.tuple #[.int .i64 (valN s true).1, .bool (valN s true).2]) ∧ w = w' := by
  have hb : decide ((s[0]'h0).toNat = 45) = true := decide_eq_true hb0
  have hnum := numV_dash s h0 hb0
  have hds := ByteArray.size_extract (a := s) (b := 1) (e := s.size)
  obtain ⟨d, hd⟩ : ∃ d, s.extract 1 s.size = d := ⟨_, rfl⟩
  have hnd : noDash s true = d := hd
  rw [hd] at hnum hds hn
  have hds : d.size < s.size := by omega
  have HU := Lib.hid hnum
  clear hnum hb0 hd
  have HN := Lib.hid hn
  clear hn
  go_enter Tryz.func86, Tryz.ntmps86
  go_wp2_with fail
  refine (trim_any s h0 _ hs).mono ?_
  rintro e w' ⟨rfl, rfl⟩
  rw [hb, hnd]
  go_wp2
  go_loop [5, 6, 7, 12] (fun n _ _ i => ∃ (k m : Nat), k ≤ d.size ∧ i = .int .i64 k ∧ n = .int .i64 (-(m : Int)) ∧ m ≤ 9223372036854775808 ∧ Hid (numV (d.data.toList.take k) = m)) (fun _ _ _ i => d.size - (intOf i).toNat)
  case atStart => exact ⟨0, 0, Nat.zero_le _, rfl, rfl, by omega, rfl⟩
  case round =>
    obtain ⟨k, m, hk, rfl, rfl, hm, HE⟩ := hrel
    by_cases hlt : k < d.size
    · obtain ⟨c, hc⟩ : ∃ c, (d[k]'hlt).toNat = c := ⟨_, rfl⟩
      have hd : 48 ≤ c ∧ c ≤ 57 := by rw [← hc]; exact HN.out k hlt
      have hstep : numV (d.data.toList.take (k + 1)) = m * 10 + (c - 48) := by
        rw [numV_next d k hlt, HE.out]; unfold stepV; rw [hc, if_neg (by omega)]
      have ht := tdiv_dash c hd.1 hd.2
      by_cases hover : m * 10 + (c - 48) ≤ 9223372036854775808
      · have HS := Lib.hid hstep; clear hstep
        have hq : ¬ (-(m : Int) < (-9223372036854775808 + ((c : Int) - 48)).tdiv 10) := by rw [ht]; omega
        clear ht
        obtain ⟨hd1, hd2⟩ := hd
        go_wp2
        go_round
        case rel => exact ⟨k + 1, m * 10 + (c - 48), by omega, by go_num, by go_num, by omega, HS⟩
        case measure => simp [intOf]; omega
      · have hq : (-(m : Int) < (-9223372036854775808 + ((c : Int) - 48)).tdiv 10) := by rw [ht]; omega
        have HF : Hid (valN s true = (0, false)) := by
          refine Lib.hid ?_
          have := numV_take d.data.toList (k + 1)
          unfold valN
          rw [if_pos rfl, ← HU.out, if_neg (by omega)]
        clear ht hstep hover
        obtain ⟨hd1, hd2⟩ := hd
        go_wp2
        go_ret2
        exact ⟨ret_val (by rw [HF.out]) (by rw [HF.out]), rfl⟩
    · have he : numV d.data.toList = m := by
        have := HE.out
        rwa [List.take_of_length_le (by simp; omega)] at this
      have hl : (d.toList == s.toList) = false := by
        rw [beq_bytes]
        exact decide_eq_false (by rintro rfl; omega)
      have HF : Hid (valN s true = (-(m : Int), true)) := by
        refine Lib.hid ?_
        unfold valN
        rw [if_pos rfl, ← HU.out, he, if_pos (by omega)]
      clear he
      go_wp2
      go_ret2
      exact ⟨ret_val (by rw [HF.out]) (by rw [HF.out]), rfl⟩

end Go.Proofs.YthlofmnmacpogaaGreatDoor

namespace Go.Proofs.YthlofmnmacpogaaGreatDoor
open Go.RowKit

theorem index_cons (b : UInt8) (l sub : List UInt8) : (0 ≤ Lib.index (b :: l) sub) ↔ (sub.isPrefixOf (b :: l) = true ∨ 0 ≤ Lib.index l sub) := by
  have := Lib.index_ge l sub
  obtain ⟨q, hq⟩ : ∃ q, Lib.index l sub = q := ⟨_, rfl⟩
  rw [show Lib.index (b :: l) sub = if sub.isPrefixOf (b :: l) then 0 else if Lib.index l sub == -1 then -1 else Lib.index l sub + 1 by rw [Lib.index]]
  rw [hq] at this ⊢
  cases sub.isPrefixOf (b :: l)
  · by_cases h2 : q = -1
    · subst h2; simp
    · have h3 : (q == -1) = false := beq_eq_false_iff_ne.2 h2
      simp [h3]; omega
  · simp

theorem index_word (w rest sub : List UInt8) (h : ∀ b ∈ w, b ≠ 32) : (0 ≤ Lib.index (w ++ rest) (32 :: sub)) ↔ 0 ≤ Lib.index rest (32 :: sub) := by
  induction w with
  | nil => rfl
  | cons b t ih =>
    rw [List.cons_append, index_cons, ih (fun c hc => h c (List.mem_cons_of_mem _ hc))]
    have : (32 :: sub).isPrefixOf (b :: (t ++ rest)) = false := by
      have hb := h b (List.mem_cons_self)
      simp [List.isPrefixOf]
      intro e; exact absurd e.symm hb
    simp [this]

theorem prefix_word (s w rest : List UInt8) (hs : ∀ b ∈ s, b ≠ 32) (hw : ∀ b ∈ w, b ≠ 32) : (s ++ [32]).isPrefixOf (w ++ 32 :: rest) = true ↔ w = s := by
  induction s generalizing w with
  | nil =>
    cases w with
    | nil => simp [List.isPrefixOf]
    | cons c t =>
      have hc := hw c (List.mem_cons_self)
      simp [List.isPrefixOf]
      exact fun e => absurd e.symm hc
  | cons a l ih =>
    cases w with
    | nil =>
      have ha := hs a (List.mem_cons_self)
      simp [List.isPrefixOf, ha]
    | cons c t =>
      have := ih t (fun b hb => hs b (List.mem_cons_of_mem _ hb)) (fun b hb => hw b (List.mem_cons_of_mem _ hb))
      simp only [List.cons_append, List.isPrefixOf, Bool.and_eq_true, beq_iff_eq, this, List.cons.injEq]
      constructor
      · rintro ⟨h1, h2⟩; exact ⟨h1.symm, h2⟩
      · rintro ⟨h1, h2⟩; exact ⟨h1.symm, h2⟩

theorem index_words (ws : List (List UInt8)) (s : List UInt8) (hs : ∀ b ∈ s, b ≠ 32) (hw : ∀ w ∈ ws, ∀ b ∈ w, b ≠ 32) :
    (0 ≤ Lib.index (32 :: ws.flatMap (fun w => w ++ [32])) (32 :: (s ++ [32]))) ↔ s ∈ ws := by
  induction ws with
  | nil => rw [List.flatMap_nil, index_cons]; simp [Lib.index, List.isPrefixOf]
  | cons w t ih =>
    rw [List.flatMap_cons, List.append_assoc, index_cons, List.singleton_append, index_word _ _ _ (hw w (List.mem_cons_self)), ih (fun x hx => hw x (List.mem_cons_of_mem _ hx))]
    have := prefix_word s w (t.flatMap (fun w => w ++ [32])) hs (hw w (List.mem_cons_self))
    simp only [List.isPrefixOf, beq_self_eq_true, Bool.true_and, this, List.mem_cons]
    constructor
    · intro h
      rcases h with h | h
      · exact .inl h.symm
      · exact .inr h
    · intro h
      rcases h with h | h
      · exact .inl h.symm
      · exact .inr h

end Go.Proofs.YthlofmnmacpogaaGreatDoor

namespace Go.Proofs.YthlofmnmacpogaaGreatDoor
open Go.RowKit

/-- the words in a row, as token has them -/
def wordsT : ByteArray := ⟨#[32, 97, 116, 116, 114, 32, 117, 115, 101, 114, 32, 114, 111, 108, 101, 32, 115, 116, 97, 103, 101, 32, 105, 110, 32, 101, 118, 101, 110, 116, 32, 98, 121, 32, 115, 101, 116, 115, 32, 109, 97, 120, 32, 111, 110, 32, 105, 102, 32, 103, 117, 97, 114, 100, 32, 109, 105, 108, 101, 115, 116, 111, 110, 101, 32, 111, 102, 32, 102, 105, 110, 97, 108, 32, 115, 111, 100, 32, 97, 110, 100, 32, 111, 114, 32, 110, 111, 116, 32, 105, 109, 112, 108, 105, 101, 115, 32, 111, 112, 101, 110, 32, 100, 111, 110, 101, 32, 99, 97, 110, 32, 100, 105, 100, 32, 99, 111, 109, 112, 108, 101, 116, 101, 32, 115, 116, 117, 99, 107, 32, 116, 114, 117, 101, 32, 102, 97, 108, 115, 101, 32, 105, 100, 108, 101, 32, 108, 111, 111, 112, 32, 65, 88, 32, 69, 88, 32, 65, 70, 32, 69, 70, 32, 65, 71, 32, 69, 71, 32, 65, 32, 69, 32, 85, 32]⟩

theorem wordsT_is : wordsT.data.toList = 32 :: (wordsB.map (fun x => x.data.toList)).flatMap (fun w => w ++ [32]) := by decide +kernel

theorem wordsT_size : wordsT.size < 4294967281 := by decide +kernel

def spaceB (s : ByteArray) : Bool := decide (0 ≤ Lib.indexByte s.data.toList 32)

theorem noSpace (l : List UInt8) (h : decide (0 ≤ Lib.indexByte l 32) = false) : ∀ b ∈ l, b ≠ 32 := by
  have h1 := of_decide_eq_false h
  have h2 := Lib.indexByte_ge l 32
  have h3 := Lib.indexByte_none (show Lib.indexByte l 32 = -1 by omega)
  intro b hb e
  subst e
  obtain ⟨k, hk⟩ := List.getElem?_of_mem hb
  exact h3 k hk

/-- the cell of internal/bytealg's MaxLen holds some number -/
def MaxCell (w : World) : Prop := ∃ m, w.cell? ⟨0, 0, none⟩ = some (.int .i64 m)
theorem MaxCell.below {w w' : World} {B : Nat} (h : MaxCell w) (hb : Below B w w') (hB : 0 < B) : MaxCell w' := by
  obtain ⟨m, hm⟩ := h
  exact ⟨m, (hb.cell (p := ⟨0, 0, none⟩) hB).trans hm⟩

theorem words_noSpace : ∀ w ∈ wordsB.map (fun x => x.data.toList), ∀ b ∈ w, b ≠ 32 := by decide +kernel

theorem known_is (s : ByteArray) (h : spaceB s = false) : Lib.contains wordsT.data.toList ((⟨#[32]⟩ : ByteArray) ++ s ++ (⟨#[32]⟩ : ByteArray)).data.toList = knownB s := by
  have e : ((⟨#[32]⟩ : ByteArray) ++ s ++ (⟨#[32]⟩ : ByteArray)).data.toList = 32 :: (s.data.toList ++ [32]) := by simp [ByteArray.data_append]
  rw [e, wordsT_is]
  unfold Lib.contains knownB
  rw [Bool.eq_iff_iff, decide_eq_true_iff, index_words _ _ (noSpace _ h) words_noSpace, List.any_eq_true]
  simp only [List.mem_map, decide_eq_true_eq]
  constructor
  · rintro ⟨x, hx, hq⟩
    exact ⟨x, hx, ByteArray.ext (Array.ext' hq)⟩
  · rintro ⟨x, hx, rfl⟩
    exact ⟨x, hx, rfl⟩

set_option maxHeartbeats 1000000 in
theorem known_space (s : ByteArray) (w : World) (hs : s.size ≤ 4611686018427387904) (h0 : 0 < s.size) (h : spaceB s = true) :
    Calls Tryz.prog 84 #[.string s] w fun e w' => e = .returned (.bool false) ∧ w = w' := by
  have H := Lib.hid h
  clear h
  have he : (s.toList == []) = false := by
    rw [ByteArray.toList_eq]
    cases hq : s.data.toList with
    | nil => have : s.data.toList.length = 0 := by rw [hq]; rfl
             have h2 : s.data.toList.length = s.size := by simp
             omega
    | cons a t => rfl
  go_enter Tryz.func84, Tryz.ntmps84
  go_wp2_with fail
  refine (Tryz.strings_Contains_one s 32 _).mono ?_
  rintro e w' ⟨rfl, hw⟩
  subst hw
  rw [show decide (0 ≤ Lib.indexByte s.data.toList 32) = true from H.out]
  go_wp2
  go_ret
  exact ⟨rfl, rfl⟩

set_option maxHeartbeats 1000000 in
theorem known_empty (s : ByteArray) (w : World) (h0 : s.size = 0) :
    Calls Tryz.prog 84 #[.string s] w fun e w' => e = .returned (.bool false) ∧ w = w' := by
  have he : (s.toList == []) = true := by
    rw [ByteArray.toList_eq]
    cases hq : s.data.toList with
    | nil => rfl
    | cons a t => have h2 : s.data.toList.length = s.size := by simp
                  rw [hq] at h2; simp at h2; omega
  go_enter Tryz.func84, Tryz.ntmps84
  go_wp2
  go_ret
  exact ⟨rfl, rfl⟩

set_option maxHeartbeats 1000000 in
theorem known_full (s : ByteArray) (w : World) (hw0 : MaxCell w) (hs : s.size ≤ 4611686018427387904) (h0 : 0 < s.size) (h : spaceB s = false) :
    Calls Tryz.prog 84 #[.string s] w fun e w' => e = .returned (.bool (knownB s)) ∧ w = w' := by
  have H := Lib.hid h
  obtain ⟨m, hm⟩ := hw0
  clear h
  have he : (s.toList == []) = false := by
    rw [ByteArray.toList_eq]
    cases hq : s.data.toList with
    | nil => have : s.data.toList.length = 0 := by rw [hq]; rfl
             have h2 : s.data.toList.length = s.size := by simp
             omega
    | cons a t => rfl
  go_enter Tryz.func84, Tryz.ntmps84
  go_wp2_with fail
  refine (Tryz.strings_Contains_one s 32 _).mono ?_
  rintro e w' ⟨rfl, hw⟩
  subst hw
  rw [show decide (0 ≤ Lib.indexByte s.data.toList 32) = false from H.out]
  go_wp2_with fail
  refine (Tryz.strings_Contains wordsT _ _ _ wordsT_size hm).mono ?_
  rintro e w' ⟨rfl, hw⟩
  subst hw
  rw [known_is s H.out]
  go_wp2
  go_ret
  exact ⟨rfl, rfl⟩

theorem known_mem (s : ByteArray) (h : knownB s = true) : s.data.toList ∈ wordsB.map (fun x => x.data.toList) := by
  unfold knownB at h
  obtain ⟨x, hx, hq⟩ := List.any_eq_true.1 h
  rw [← of_decide_eq_true hq]
  exact List.mem_map_of_mem hx

theorem known_any (s : ByteArray) (w : World) (hw0 : MaxCell w) (hs : s.size ≤ 4611686018427387904) :
    Calls Tryz.prog 84 #[.string s] w fun e w' => e = .returned (.bool (knownB s)) ∧ w = w' := by
  by_cases h0 : s.size = 0
  · have e : knownB s = false := by
      refine Bool.eq_false_iff.2 fun h => ?_
      have hm := known_mem s h
      have hl : s.data.toList = [] := List.length_eq_zero_iff.1 (by simpa using h0)
      rw [hl] at hm
      exact absurd hm (by decide +kernel)
    rw [e]
    exact known_empty s w h0
  · cases h : spaceB s
    · exact known_full s w hw0 hs (by omega) h
    · have e : knownB s = false := by
        refine Bool.eq_false_iff.2 fun hk => ?_
        have hm := words_noSpace _ (known_mem s hk)
        have h1 := of_decide_eq_true h
        obtain ⟨o, ho⟩ := Int.eq_ofNat_of_zero_le h1
        have h2 := (Lib.indexByte_some ho).1
        exact hm 32 (List.mem_of_getElem? h2) rfl
      rw [e]
      exact known_space s w hs (by omega) h

end Go.Proofs.YthlofmnmacpogaaGreatDoor
