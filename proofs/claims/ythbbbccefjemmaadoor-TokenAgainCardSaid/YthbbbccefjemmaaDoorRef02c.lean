/- Contract of warderref02's value. -/
import Derived.Test.YthbbbccefjemmaaDoorNumPlain
namespace Go.Proofs.YthbbbccefjemmaaDoor
open Go.RowKit

theorem ret_val {a c : Int} {b d : Bool} (h1 : a = c) (h2 : b = d) : Ending.returned (.tuple #[.int .i64 a, .bool b]) = .returned (.tuple #[.int .i64 c, .bool d]) := by rw [h1, h2]

set_option maxHeartbeats 2000000 in
theorem rvalue_pos (s : ByteArray) (w : World) (hs : s.size ≤ 4294967296) (h0 : 0 < s.size) (hn : NumT s) (hb : (s[0]'h0).toNat ≠ 45) :
    Calls Tryd.prog 40 #[.string s] w fun e w' => e = .returned (.tuple #[.int .i64 (valN s false).1, .bool (valN s false).2]) ∧ w = w' := by
  obtain ⟨c0, hc0⟩ : ∃ c, (s[0]'h0).toNat = c := ⟨_, rfl⟩
  have hcb : ((c0 : Int) == 45) = false := beq_eq_false_iff_ne.2 (by omega)
  have HN := Lib.hid hn
  clear hn hb
  go_enter Tryd.func40, Tryd.ntmps40
  go_wp2
  go_loop [5, 6, 7] (fun n i _ => ∃ (k m : Nat), k ≤ s.size ∧ i = .int .i64 k ∧ n = .int .i64 m ∧ m ≤ 9223372036854775807 ∧ Hid (numV (s.data.toList.take k) = m)) (fun _ i _ => s.size - (intOf i).toNat)
  case atStart => exact ⟨0, 0, Nat.zero_le _, rfl, rfl, by omega, rfl⟩
  case round =>
    obtain ⟨k, m, hk, rfl, rfl, hm, HE⟩ := hrel
    by_cases hlt : k < s.size
    · obtain ⟨c, hc⟩ : ∃ c, (s[k]'hlt).toNat = c := ⟨_, rfl⟩
      have hstep : numV (s.data.toList.take (k + 1)) = if c = 45 then m else m * 10 + (c - 48) := by
        rw [numV_next s k hlt, HE.out]; unfold stepV; rw [hc]
      have hd : c = 45 ∨ (48 ≤ c ∧ c ≤ 57) := by rw [← hc]; exact HN.out k hlt
      by_cases hc45 : c = 45
      · subst hc45
        have HS := Lib.hid hstep; clear hstep
        go_wp2
        go_round
        case rel => exact ⟨k + 1, m, by omega, by go_num, rfl, hm, Lib.hid (by simpa using HS.out)⟩
        case measure => simp [intOf]; omega
      · have hcf : ((c : Int) == 45) = false := beq_eq_false_iff_ne.2 (by omega)
        rw [if_neg hc45] at hstep
        obtain ⟨hd1, hd2⟩ : 48 ≤ c ∧ c ≤ 57 := by omega
        rcases Nat.lt_trichotomy m 922337203685477580 with hmk | hmk | hmk
        · have HS := Lib.hid hstep; clear hstep
          have hm1 : ((m : Int) == 922337203685477580) = false := beq_eq_false_iff_ne.2 (by omega)
          go_wp2
          go_round
          case rel => exact ⟨k + 1, m * 10 + (c - 48), by omega, by go_num, by go_num, by omega, HS⟩
          case measure => simp [intOf]; omega
        · subst hmk
          by_cases hc7 : c ≤ 55
          · have HS := Lib.hid hstep; clear hstep
            go_wp2
            go_round
            case rel => exact ⟨k + 1, 922337203685477580 * 10 + (c - 48), by omega, by go_num, by go_num, by omega, HS⟩
            case measure => simp [intOf]; omega
          · have HF : Hid (valN s false = (0, false)) := by
              refine Lib.hid ?_
              have := numV_take s.data.toList (k + 1)
              unfold valN
              rw [if_neg (by simp), if_neg (by omega)]
            clear hstep
            go_wp2
            go_ret2
            exact ⟨ret_val (by rw [HF.out]) (by rw [HF.out]), rfl⟩
        · have HF : Hid (valN s false = (0, false)) := by
            refine Lib.hid ?_
            have := numV_take s.data.toList (k + 1)
            unfold valN
            rw [if_neg (by simp), if_neg (by omega)]
          clear hstep
          go_wp2
          go_ret2
          exact ⟨ret_val (by rw [HF.out]) (by rw [HF.out]), rfl⟩
    · have HF : Hid (valN s false = ((m : Int), true)) := by
        refine Lib.hid ?_
        have := HE.out
        rw [List.take_of_length_le (by simp; omega)] at this
        unfold valN
        rw [if_neg (by simp), this, if_pos (by omega)]
      go_wp2
      go_ret2
      exact ⟨ret_val (by rw [HF.out]) (by rw [HF.out]), rfl⟩

set_option maxHeartbeats 2000000 in
theorem rvalue_neg (s : ByteArray) (w : World) (hs : s.size ≤ 4294967296) (h0 : 0 < s.size) (hn : NumT s) (hb : (s[0]'h0).toNat = 45) :
    Calls Tryd.prog 40 #[.string s] w fun e w' => e = .returned (.tuple #[.int .i64 (valN s true).1, .bool (valN s true).2]) ∧ w = w' := by
  obtain ⟨c0, hc0⟩ : ∃ c, (s[0]'h0).toNat = c := ⟨_, rfl⟩
  have hcb : ((c0 : Int) == 45) = true := by rw [beq_iff_eq]; omega
  have HN := Lib.hid hn
  clear hn hb
  go_enter Tryd.func40, Tryd.ntmps40
  go_wp2
  go_loop [5, 6, 7] (fun n i _ => ∃ (k m : Nat), k ≤ s.size ∧ i = .int .i64 k ∧ n = .int .i64 (-(m : Int)) ∧ m ≤ 9223372036854775808 ∧ Hid (numV (s.data.toList.take k) = m)) (fun _ i _ => s.size - (intOf i).toNat)
  case atStart => exact ⟨0, 0, Nat.zero_le _, rfl, rfl, by omega, rfl⟩
  case round =>
    obtain ⟨k, m, hk, rfl, rfl, hm, HE⟩ := hrel
    by_cases hlt : k < s.size
    · obtain ⟨c, hc⟩ : ∃ c, (s[k]'hlt).toNat = c := ⟨_, rfl⟩
      have hstep : numV (s.data.toList.take (k + 1)) = if c = 45 then m else m * 10 + (c - 48) := by
        rw [numV_next s k hlt, HE.out]; unfold stepV; rw [hc]
      have hd : c = 45 ∨ (48 ≤ c ∧ c ≤ 57) := by rw [← hc]; exact HN.out k hlt
      by_cases hc45 : c = 45
      · subst hc45
        have HS := Lib.hid hstep; clear hstep
        go_wp2
        go_round
        case rel => exact ⟨k + 1, m, by omega, by go_num, rfl, hm, Lib.hid (by simpa using HS.out)⟩
        case measure => simp [intOf]; omega
      · have hcf : ((c : Int) == 45) = false := beq_eq_false_iff_ne.2 (by omega)
        rw [if_neg hc45] at hstep
        obtain ⟨hd1, hd2⟩ : 48 ≤ c ∧ c ≤ 57 := by omega
        rcases Nat.lt_trichotomy m 922337203685477580 with hmk | hmk | hmk
        · have HS := Lib.hid hstep; clear hstep
          have hm1 : ((-(m : Int)) == -922337203685477580) = false := beq_eq_false_iff_ne.2 (by omega)
          go_wp2
          go_round
          case rel => exact ⟨k + 1, m * 10 + (c - 48), by omega, by go_num, by go_num, by omega, HS⟩
          case measure => simp [intOf]; omega
        · subst hmk
          by_cases hc7 : c ≤ 56
          · have HS := Lib.hid hstep; clear hstep
            go_wp2
            go_round
            case rel => exact ⟨k + 1, 922337203685477580 * 10 + (c - 48), by omega, by go_num, by go_num, by omega, HS⟩
            case measure => simp [intOf]; omega
          · have HF : Hid (valN s true = (0, false)) := by
              refine Lib.hid ?_
              have := numV_take s.data.toList (k + 1)
              unfold valN
              rw [if_pos rfl, if_neg (by omega)]
            clear hstep
            go_wp2
            go_ret2
            exact ⟨ret_val (by rw [HF.out]) (by rw [HF.out]), rfl⟩
        · have HF : Hid (valN s true = (0, false)) := by
            refine Lib.hid ?_
            have := numV_take s.data.toList (k + 1)
            unfold valN
            rw [if_pos rfl, if_neg (by omega)]
          clear hstep
          go_wp2
          go_ret2
          exact ⟨ret_val (by rw [HF.out]) (by rw [HF.out]), rfl⟩
    · have HF : Hid (valN s true = (-(m : Int), true)) := by
        refine Lib.hid ?_
        have := HE.out
        rw [List.take_of_length_le (by simp; omega)] at this
        unfold valN
        rw [if_pos rfl, this, if_pos (by omega)]
      go_wp2
      go_ret2
      exact ⟨ret_val (by rw [HF.out]) (by rw [HF.out]), rfl⟩

theorem rvalue_any (s : ByteArray) (w : World) (hs : s.size ≤ 4294967296) (h0 : 0 < s.size) (hn : NumT s) :
    Calls Tryd.prog 40 #[.string s] w fun e w' => e = .returned (.tuple #[.int .i64 (valN s (decide ((s[0]'h0).toNat = 45))).1, .bool (valN s (decide ((s[0]'h0).toNat = 45))).2]) ∧ w = w' := by
  by_cases hb : (s[0]'h0).toNat = 45
  · rw [decide_eq_true hb]; exact rvalue_neg s w hs h0 hn hb
  · rw [decide_eq_false hb]; exact rvalue_pos s w hs h0 hn hb

end Go.Proofs.YthbbbccefjemmaaDoor
