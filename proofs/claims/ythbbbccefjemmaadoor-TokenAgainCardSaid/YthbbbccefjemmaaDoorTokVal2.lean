/- Contract of token's value. -/
import Derived.Test.YthbbbccefjemmaaDoorTokVal
namespace Go.Proofs.YthbbbccefjemmaaDoor
open Go.RowKit

/-- bytes that are digits -/
def DigT (s : ByteArray) : Prop := ∀ (k : Nat) (h : k < s.size), 48 ≤ (s[k]'h).toNat ∧ (s[k]'h).toNat ≤ 57

theorem tdiv_dash (c : Nat) (h1 : 48 ≤ c) (h2 : c ≤ 57) : (-9223372036854775808 + ((c : Int) - 48)).tdiv 10 = -((9223372036854775808 - ((c : Int) - 48)) / 10) := by
  rw [show (-9223372036854775808 + ((c : Int) - 48)) = -(9223372036854775808 - ((c : Int) - 48)) by omega, Int.neg_tdiv, Int.tdiv_eq_ediv_of_nonneg (by omega)]

set_option maxHeartbeats 2000000 in
theorem value_pos (s : ByteArray) (w : World) (hs : s.size ≤ 4294967296) (h0 : 0 < s.size) (hn : DigT s) :
    Calls Tryd.prog 50 #[.string s] w fun e w' => e = .returned (.tuple #[.int .i64 (valN s false).1, .bool (valN s false).2]) ∧ w = w' := by
  have hb : decide ((s[0]'h0).toNat = 45) = false := decide_eq_false (by have := hn 0 h0; omega)
  have HN := Lib.hid hn
  clear hn
  go_enter Tryd.func50, Tryd.ntmps50
  go_wp2_with fail
  refine (trim_any s h0 _ hs).mono ?_
  rintro e w' ⟨rfl, rfl⟩
  rw [hb, show noDash s false = s from rfl]
  go_wp2
  go_loop [5, 6, 7, 12] (fun n _ _ i => ∃ (k m : Nat), k ≤ s.size ∧ i = .int .i64 k ∧ n = .int .i64 (-(m : Int)) ∧ m ≤ 9223372036854775808 ∧ Hid (numV (s.data.toList.take k) = m)) (fun _ _ _ i => s.size - (intOf i).toNat)
  case atStart => exact ⟨0, 0, Nat.zero_le _, rfl, rfl, by omega, rfl⟩
  case round =>
    obtain ⟨k, m, hk, rfl, rfl, hm, HE⟩ := hrel
    by_cases hlt : k < s.size
    · obtain ⟨c, hc⟩ : ∃ c, (s[k]'hlt).toNat = c := ⟨_, rfl⟩
      have hd : 48 ≤ c ∧ c ≤ 57 := by rw [← hc]; exact HN.out k hlt
      have hstep : numV (s.data.toList.take (k + 1)) = m * 10 + (c - 48) := by
        rw [numV_next s k hlt, HE.out]; unfold stepV; rw [hc, if_neg (by omega)]
      have ht := tdiv_dash c hd.1 hd.2
      by_cases hover : m * 10 + (c - 48) ≤ 9223372036854775808
      · have HS := Lib.hid hstep; clear hstep
        have hq : ¬ (-(m : Int) < (-9223372036854775808 + ((c : Int) - 48)).tdiv 10) := by rw [ht]; omega
        clear ht
        obtain ⟨hd1, hd2⟩ := hd
        go_wp2
        go_round
        case rel => exact ⟨k + 1, m * 10 + (c - 48), by omega, by go_num, by go_num, by omega, HS⟩
        case measure => simp [intOf]; omega
      · have hq : (-(m : Int) < (-9223372036854775808 + ((c : Int) - 48)).tdiv 10) := by rw [ht]; omega
        have HF : Hid (valN s false = (0, false)) := by
          refine Lib.hid ?_
          have := numV_take s.data.toList (k + 1)
          unfold valN
          rw [if_neg (by simp), if_neg (by omega)]
        clear ht hstep hover
        obtain ⟨hd1, hd2⟩ := hd
        go_wp2
        go_ret2
        exact ⟨ret_val (by rw [HF.out]) (by rw [HF.out]), rfl⟩
    · have he : numV s.data.toList = m := by
        have := HE.out
        rwa [List.take_of_length_le (by simp; omega)] at this
      have hl : (s.toList == s.toList) = true := by simp
      by_cases hmm : m = 9223372036854775808
      · have HF : Hid (valN s false = (0, false)) := by
          refine Lib.hid ?_
          unfold valN
          rw [if_neg (by simp), he, if_neg (by omega)]
        have hm1 : ((-(m : Int)) == -9223372036854775808) = true := by rw [beq_iff_eq]; omega
        clear he
        go_wp2
        go_ret2
        exact ⟨ret_val (by rw [HF.out]) (by rw [HF.out]), rfl⟩
      · have HF : Hid (valN s false = ((m : Int), true)) := by
          refine Lib.hid ?_
          unfold valN
          rw [if_neg (by simp), he, if_pos (by omega)]
        have hm1 : ((-(m : Int)) == -9223372036854775808) = false := beq_eq_false_iff_ne.2 (by omega)
        clear he
        go_wp2
        go_ret2
        exact ⟨ret_val (by first | (rw [HF.out]; done) | (rw [HF.out]; simp)) (by rw [HF.out]), rfl⟩

theorem numV_dash (s : ByteArray) (h0 : 0 < s.size) (h : (s[0]'h0).toNat = 45) : numV (s.extract 1 s.size).data.toList = numV s.data.toList := by
  rw [Lib.extract_data, List.take_of_length_le (by simp)]
  conv => rhs; rw [bytes_cons s h0]
  show _ = (s.data.toList.drop 1).foldl stepV (stepV 0 (s[0]'h0))
  unfold stepV
  rw [if_pos h]
  rfl

set_option maxHeartbeats 2000000 in
theorem value_neg (s : ByteArray) (w : World) (hs : s.size ≤ 4294967296) (h0 : 0 < s.size) (hb0 : (s[0]'h0).toNat = 45) (hn : DigT (s.extract 1 s.size)) :
    Calls Tryd.prog 50 #[.string s] w fun e w' => e = .returned (.tuple #[.int .i64 (valN s true).1, .bool (valN s true).2]) ∧ w = w' := by
  have hb : decide ((s[0]'h0).toNat = 45) = true := decide_eq_true hb0
  have hnum := numV_dash s h0 hb0
  have hds := ByteArray.size_extract (a := s) (b := 1) (e := s.size)
  obtain ⟨d, hd⟩ : ∃ d, s.extract 1 s.size = d := ⟨_, rfl⟩
  have hnd : noDash s true = d := hd
  rw [hd] at hnum hds hn
  have hds : d.size < s.size := by omega
  have HU := Lib.hid hnum
  clear hnum hb0 hd
  have HN := Lib.hid hn
  clear hn
  go_enter Tryd.func50, Tryd.ntmps50
  go_wp2_with fail
  refine (trim_any s h0 _ hs).mono ?_
  rintro e w' ⟨rfl, rfl⟩
  rw [hb, hnd]
  go_wp2
  go_loop [5, 6, 7, 12] (fun n _ _ i => ∃ (k m : Nat), k ≤ d.size ∧ i = .int .i64 k ∧ n = .int .i64 (-(m : Int)) ∧ m ≤ 9223372036854775808 ∧ Hid (numV (d.data.toList.take k) = m)) (fun _ _ _ i => d.size - (intOf i).toNat)
  case atStart => exact ⟨0, 0, Nat.zero_le _, rfl, rfl, by omega, rfl⟩
  case round =>
    obtain ⟨k, m, hk, rfl, rfl, hm, HE⟩ := hrel
    by_cases hlt : k < d.size
    · obtain ⟨c, hc⟩ : ∃ c, (d[k]'hlt).toNat = c := ⟨_, rfl⟩
      have hd : 48 ≤ c ∧ c ≤ 57 := by rw [← hc]; exact HN.out k hlt
      have hstep : numV (d.data.toList.take (k + 1)) = m * 10 + (c - 48) := by
        rw [numV_next d k hlt, HE.out]; unfold stepV; rw [hc, if_neg (by omega)]
      have ht := tdiv_dash c hd.1 hd.2
      by_cases hover : m * 10 + (c - 48) ≤ 9223372036854775808
      · have HS := Lib.hid hstep; clear hstep
        have hq : ¬ (-(m : Int) < (-9223372036854775808 + ((c : Int) - 48)).tdiv 10) := by rw [ht]; omega
        clear ht
        obtain ⟨hd1, hd2⟩ := hd
        go_wp2
        go_round
        case rel => exact ⟨k + 1, m * 10 + (c - 48), by omega, by go_num, by go_num, by omega, HS⟩
        case measure => simp [intOf]; omega
      · have hq : (-(m : Int) < (-9223372036854775808 + ((c : Int) - 48)).tdiv 10) := by rw [ht]; omega
        have HF : Hid (valN s true = (0, false)) := by
          refine Lib.hid ?_
          have := numV_take d.data.toList (k + 1)
          unfold valN
          rw [if_pos rfl, ← HU.out, if_neg (by omega)]
        clear ht hstep hover
        obtain ⟨hd1, hd2⟩ := hd
        go_wp2
        go_ret2
        exact ⟨ret_val (by rw [HF.out]) (by rw [HF.out]), rfl⟩
    · have he : numV d.data.toList = m := by
        have := HE.out
        rwa [List.take_of_length_le (by simp; omega)] at this
      have hl : (d.toList == s.toList) = false := by
        rw [beq_bytes]
        exact decide_eq_false (by rintro rfl; omega)
      have HF : Hid (valN s true = (-(m : Int), true)) := by
        refine Lib.hid ?_
        unfold valN
        rw [if_pos rfl, ← HU.out, he, if_pos (by omega)]
      clear he
      go_wp2
      go_ret2
      exact ⟨ret_val (by rw [HF.out]) (by rw [HF.out]), rfl⟩

end Go.Proofs.YthbbbccefjemmaaDoor
