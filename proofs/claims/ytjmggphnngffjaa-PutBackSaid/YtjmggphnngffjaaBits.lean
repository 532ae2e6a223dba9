/- Contracts of the functions Has, With, Without of package bits and Has of warderref14, for all whole numbers of 64 bits. -/
import Derived.Test.YtjmggphnngffjaaKit
import Derived.Test.YtjmggphnngffjaaBitsPlain
namespace Go.Proofs.Ytjmggphnngffjaa
open Go.RowKit

set_option maxHeartbeats 400000 in
theorem number_in (i : Int) (w : World) (h0 : 0 ≤ i) (h1 : i ≤ 30) :
    Calls Try.prog 71 #[.int .i64 i] w fun e w' => e = .returned (.bool true) ∧ w = w' := by
  go_enter Try.func71, Try.ntmps71
  go_wp2
  go_ret
  exact ⟨by simp; omega, rfl⟩

set_option maxHeartbeats 400000 in
theorem number_out (i : Int) (w : World) (h : i < 0 ∨ 30 < i) :
    Calls Try.prog 71 #[.int .i64 i] w fun e w' => e = .returned (.bool false) ∧ w = w' := by
  rcases h with h | h
  all_goals
    go_enter Try.func71, Try.ntmps71
    go_wp2
    go_ret
    exact ⟨by simp; try omega, rfl⟩

set_option maxHeartbeats 400000 in
theorem has_any (s i : Int) (w : World) :
    Calls Try.prog 57 #[.int .i64 s, .int .i64 i] w fun e w' => e = .returned (.bool (hasB s i)) ∧ w = w' := by
  by_cases h : 0 ≤ i ∧ i ≤ 30
  · obtain ⟨h0, h1⟩ := h
    have H : Hid (hasB s i = (bits BinOp.and IntKind.i64 (s / 2 ^ i.toNat) 1 == 1)) := by
      unfold Hid hasB hasN; rw [if_pos ⟨h0, h1⟩, and_one]
    go_enter Try.func57, Try.ntmps57
    go_wp2_with (go_at_call 71; refine (number_in _ _ (by omega) (by omega)).mono ?_; rintro e w' ⟨rfl, rfl⟩)
    go_ret
    exact ⟨ret_bool H.out.symm, rfl⟩
  · have H : Hid (hasB s i = false) := by unfold Hid hasB; rw [if_neg h]
    have h' : i < 0 ∨ 30 < i := by omega
    have H' := Lib.hid h'; clear h h'
    go_enter Try.func57, Try.ntmps57
    go_wp2_with (go_at_call 71; refine (number_out _ _ H'.out).mono ?_; rintro e w' ⟨rfl, rfl⟩)
    go_ret
    exact ⟨ret_bool H.out.symm, rfl⟩

set_option maxHeartbeats 400000 in
theorem with_any (s i : Int) (w : World) :
    Calls Try.prog 54 #[.int .i64 s, .int .i64 i] w fun e w' => e = .returned (.int .i64 (putZ s i true)) ∧ w = w' := by
  by_cases h : 0 ≤ i ∧ i ≤ 30
  · obtain ⟨h0, h1⟩ := h
    have H := Lib.hid (with_word s i h0 h1)
    go_enter Try.func54, Try.ntmps54
    go_wp2_with (go_at_call 71; refine (number_in _ _ (by omega) (by omega)).mono ?_; rintro e w' ⟨rfl, rfl⟩)
    go_ret
    exact ⟨ret_int H.out, rfl⟩
  · have h' : i < 0 ∨ 30 < i := by omega
    have H := Lib.hid ((and_all s).trans (putZ_out s i true h').symm)
    have H' := Lib.hid h'; clear h h'
    go_enter Try.func54, Try.ntmps54
    go_wp2_with (go_at_call 71; refine (number_out _ _ H'.out).mono ?_; rintro e w' ⟨rfl, rfl⟩)
    go_ret
    exact ⟨ret_int H.out, rfl⟩

theorem half_step (s0 : Int) (k : Nat) : s0 / 2 ^ k / 2 = s0 / 2 ^ (k + 1) := by
  rw [Int.pow_succ, Int.ediv_ediv_of_nonneg (Int.pow_nonneg (by decide))]

theorem pow_bd (s0 : Int) (k : Nat) (h0 : -9223372036854775808 ≤ s0) (h1 : s0 ≤ 9223372036854775807) : -9223372036854775808 ≤ s0 / 2 ^ k ∧ s0 / 2 ^ k ≤ 9223372036854775807 := by
  have hp : (1 : Int) ≤ 2 ^ k := by have : (0 : Int) < 2 ^ k := Int.pow_pos (by decide); omega
  constructor
  · have : -9223372036854775808 * (2 ^ k) ≤ s0 := by
      have := Int.mul_le_mul_of_nonneg_left hp (show (0 : Int) ≤ 9223372036854775808 by decide); omega
    exact (Int.le_ediv_iff_mul_le (by omega)).2 this
  · have : s0 < 9223372036854775808 * (2 ^ k) := by
      have := Int.mul_le_mul_of_nonneg_left hp (show (0 : Int) ≤ 9223372036854775808 by decide); omega
    have := (Int.ediv_lt_iff_lt_mul (show (0 : Int) < 2 ^ k by omega)).2 this
    omega

theorem half_cases (q : Int) : (q.tmod 2 = 0 ∧ q % 2 = 0 ∧ q.tdiv 2 = q / 2) ∨ (0 ≤ q ∧ q.tmod 2 = 1 ∧ q % 2 = 1 ∧ (q - 1).tdiv 2 = q / 2) ∨ (q < 0 ∧ q.tmod 2 = -1 ∧ q % 2 = 1 ∧ (q - 1).tdiv 2 = q / 2) := by
  have e1 := Int.tmod_eq_emod_of_nonneg (a := q) (b := 2)
  have e2 := Int.mul_tdiv_add_tmod q 2
  have e3 := Int.mul_tdiv_add_tmod (q - 1) 2
  have r1 := Int.tmod_lt_of_pos q (show (0 : Int) < 2 by decide)
  have r2 := Int.lt_tmod_of_pos q (show (0 : Int) < 2 by decide)
  have r3 := Int.tmod_lt_of_pos (q - 1) (show (0 : Int) < 2 by decide)
  have r4 := Int.lt_tmod_of_pos (q - 1) (show (0 : Int) < 2 by decide)
  have e4 := Int.tmod_eq_emod_of_nonneg (a := q - 1) (b := 2)
  have e5 := Int.neg_tmod q 2
  have e6 := Int.tmod_eq_emod_of_nonneg (a := -q) (b := 2)
  rw [e5] at e6
  have e7 := Int.neg_tmod (q - 1) 2
  have e8 := Int.tmod_eq_emod_of_nonneg (a := -(q - 1)) (b := 2)
  rw [e7] at e8
  clear e5 e7
  generalize q.tmod 2 = a at *
  generalize (q - 1).tmod 2 = b at *
  generalize q.tdiv 2 = c at *
  generalize (q - 1).tdiv 2 = d at *
  omega

set_option maxHeartbeats 1000000 in
theorem rhas_any (s0 i : Int) (w : World) (hs0 : -9223372036854775808 ≤ s0) (hs1 : s0 ≤ 9223372036854775807) :
    Calls Try.prog 44 #[.int .i64 s0, .int .i64 i] w fun e w' => e = .returned (.bool (hasB s0 i)) ∧ w = w' := by
  by_cases h : 0 ≤ i ∧ i ≤ 30
  · obtain ⟨h0, h1⟩ := h
    obtain ⟨n, rfl⟩ := Int.eq_ofNat_of_zero_le h0
    have H : Hid (hasB s0 (n : Int) = hasN s0 n) := by unfold Hid hasB; rw [if_pos ⟨h0, h1⟩, Int.toNat_natCast]
    go_enter Try.func44, Try.ntmps44
    go_wp2
    go_loop [0, 5, 6] (fun s k _ => ∃ (j : Nat) (q : Int), j ≤ n ∧ k = .int .i64 j ∧ s = .int .i64 q ∧ Hid (q = s0 / 2 ^ j)) (fun _ k _ => n - (intOf k).toNat)
    case atStart => exact ⟨0, s0, Nat.zero_le _, rfl, rfl, by unfold Hid; simp⟩
    case round =>
      obtain ⟨j, q, hj, rfl, rfl, HQ⟩ := hrel
      have hb := pow_bd s0 j hs0 hs1
      rw [← HQ.out] at hb
      obtain ⟨hb0, hb1⟩ := hb
      have HN : Hid (q / 2 = s0 / 2 ^ (j + 1)) := by unfold Hid; rw [← half_step, ← HQ.out]
      have hv : (q.tmod 2 = 0 ∧ q % 2 = 0 ∧ q.tdiv 2 = q / 2) ∨ (0 ≤ q ∧ q.tmod 2 = 1 ∧ q % 2 = 1 ∧ (q - 1).tdiv 2 = q / 2) ∨ (q < 0 ∧ q.tmod 2 = -1 ∧ q % 2 = 1 ∧ (q - 1).tdiv 2 = q / 2) := half_cases q
      by_cases hlt : j < n
      · rcases hv with ⟨h1, h2, h3⟩ | ⟨h0, h1, h2, h3⟩ | ⟨h0, h1, h2, h3⟩
        all_goals
          go_wp2
          go_round
          case rel => exact ⟨j + 1, q / 2, by omega, by go_num, int_eq (by omega), HN⟩
          case measure => simp [intOf]; omega
      · obtain rfl : n = j := by omega
        have HE : Hid (hasN s0 n = (q % 2 == 1)) := by unfold Hid hasN; rw [HQ.out]
        rcases hv with ⟨h1, h2, h3⟩ | ⟨h0, h1, h2, h3⟩ | ⟨h0, h1, h2, h3⟩
        all_goals
          go_wp2
          go_ret
          exact ⟨ret_bool (by rw [H.out, HE.out, h2]; simp), rfl⟩
  · have H : Hid (hasB s0 i = false) := by unfold Hid hasB; rw [if_neg h]
    have h' : i < 0 ∨ 30 < i := by omega
    clear h
    rcases h' with h | h
    all_goals
      go_enter Try.func44, Try.ntmps44
      go_wp2
      go_ret
      exact ⟨ret_bool H.out.symm, rfl⟩

end Go.Proofs.Ytjmggphnngffjaa
