/- Contracts of Times and Power of package bound and of warderref41, for all whole numbers of 64 bits. -/
import Derived.Test.YtbhmimegcnfjcaaKit
import Derived.Test.YtbhmimegcnfjcaaBoundPlain
namespace Go.Proofs.Ytbhmimegcnfjcaa
open Go.RowKit

set_option maxHeartbeats 1000000 in
theorem times_any (a b : Int) (w : World) (_hb0 : -9223372036854775808 ≤ b) (_hb1 : b ≤ 9223372036854775807) :
    Calls Try.prog 33 #[.int .i64 a, .int .i64 b] w fun e w' => e = .returned (.int .i64 (timesZ a b)) ∧ w = w' := by
  by_cases ha : a < 1
  · have H := Lib.hid (times_low (a := a) (b := b) (.inl ha))
    go_enter Try.func33, Try.ntmps33
    go_wp2
    go_ret
    exact ⟨ret_int H.out.symm, rfl⟩
  · have ha1 : 1 ≤ a := by omega
    clear ha
    by_cases hb : b < 1
    · have H := Lib.hid (times_low (a := a) (b := b) (.inr hb))
      go_enter Try.func33, Try.ntmps33
      go_wp2
      go_ret
      exact ⟨ret_int H.out.symm, rfl⟩
    · have hb1' : 1 ≤ b := by omega
      clear hb
      by_cases hq : 4611686018427387904 / b < a
      · have H := Lib.hid (times_high ha1 hb1' ((quo_gt hb1').1 hq))
        go_enter Try.func33, Try.ntmps33
        go_wp2
        go_ret
        exact ⟨ret_int H.out.symm, rfl⟩
      · have hle : a * b ≤ 4611686018427387904 := by
          have := mt (quo_gt hb1').2 hq; omega
        have hq' : a ≤ 4611686018427387904 / b := by omega
        have h0 : 0 ≤ a * b := Int.mul_nonneg (by omega) (by omega)
        have H := Lib.hid (times_mid ha1 hb1' hle)
        clear hq
        go_enter Try.func33, Try.ntmps33
        go_wp2
        go_ret
        exact ⟨ret_int H.out.symm, rfl⟩

set_option maxHeartbeats 2000000 in
theorem rtimes_any (A B : Int) (w : World) (hA1 : A ≤ 9223372036854775807) (hB1 : B ≤ 9223372036854775807) :
    Calls Try.prog 34 #[.int .i64 A, .int .i64 B] w fun e w' => e = .returned (.int .i64 (timesZ A B)) ∧ w = w' := by
  by_cases ha : A < 1
  · have H := Lib.hid (times_low (a := A) (b := B) (.inl ha))
    go_enter Try.func34, Try.ntmps34
    go_wp2
    go_ret
    exact ⟨ret_int H.out.symm, rfl⟩
  · have ha1 : 1 ≤ A := by omega
    clear ha
    by_cases hb : B < 1
    · have H := Lib.hid (times_low (a := A) (b := B) (.inr hb))
      go_enter Try.func34, Try.ntmps34
      go_wp2
      go_ret
      exact ⟨ret_int H.out.symm, rfl⟩
    · have hb1' : 1 ≤ B := by omega
      clear hb
      have HM := Lib.hid (@times_mid A B ha1 hb1')
      have HH := Lib.hid (@times_high A B ha1 hb1')
      go_enter Try.func34, Try.ntmps34
      go_wp2
      go_loop [0, 1, 5] (fun x y z => ∃ a b o : Int, x = .int .i64 a ∧ y = .int .i64 b ∧ z = .int .i64 o ∧ 1 ≤ a ∧ a ≤ 9223372036854775807 ∧ 0 ≤ b ∧ b ≤ 9223372036854775807 ∧ 0 ≤ o ∧ o ≤ 4611686018427387904 ∧ Hid (A * B = o + a * b)) (fun _ y _ => (intOf y).toNat)
      case atStart => exact ⟨A, B, 0, rfl, rfl, rfl, ha1, hA1, by omega, hB1, by omega, by omega, by unfold Hid; omega⟩
      case round =>
        obtain ⟨a, b, o, rfl, rfl, rfl, h1, h2, h3, h4, h5, h6, HI⟩ := hrel
        clear ha1 hb1' hA1 hB1
        by_cases hb : b < 1
        · obtain rfl : b = 0 := by omega
          have HE : Hid (timesZ A B = o) := by
            have := HI.out
            have := HM.out (by omega)
            unfold Hid; omega
          go_wp2
          go_ret
          exact ⟨ret_int HE.out.symm, rfl⟩
        · have hb' : 1 ≤ b := by omega
          clear hb
          rcases (show b % 2 = 0 ∨ b % 2 = 1 by omega) with hm | hm
          · have HI2 := dbl_even HI.out hm
            by_cases hbig : 2305843009213693952 < a
            · have HE : Hid (timesZ A B = 4611686018427387904) := by
                have := mul_ge (a := a * 2) (b := b / 2) (by omega) (by omega)
                exact HH.out (by omega)
              go_wp2
              go_ret
              exact ⟨ret_int HE.out.symm, rfl⟩
            · have HI3 := Lib.hid HI2; clear HI2
              go_wp2
              go_round
              case rel => exact ⟨a * 2, b / 2, o, rfl, rfl, rfl, by omega, by omega, by omega, by omega, by omega, by omega, HI3.out⟩
              case measure => simp [intOf]; omega
          · have HI2 := dbl_odd HI.out hm
            by_cases hover : 4611686018427387904 - o < a
            · have HE : Hid (timesZ A B = 4611686018427387904) := by
                have := Int.mul_nonneg (a := a * 2) (b := b / 2) (by omega) (by omega)
                exact HH.out (by omega)
              clear HI2
              go_wp2
              go_ret
              exact ⟨ret_int HE.out.symm, rfl⟩
            · by_cases hz : b / 2 < 1
              · have HE : Hid (timesZ A B = o + a) := by
                  have : b / 2 = 0 := by omega
                  rw [this] at HI2
                  have := HM.out (by omega)
                  unfold Hid; omega
                have HI4 : Hid (A * B = (o + a) + a * (b / 2)) := by
                  have hb0 : b / 2 = 0 := by omega
                  unfold Hid
                  rw [hb0] at HI2 ⊢
                  omega
                clear HI2
                go_wp2
                go_round
                case rel => exact ⟨a, b / 2, o + a, rfl, rfl, rfl, by omega, by omega, by omega, by omega, by omega, by omega, HI4⟩
                case measure => simp [intOf]; omega
              · by_cases hbig : 2305843009213693952 < a
                · have HE : Hid (timesZ A B = 4611686018427387904) := by
                    have := mul_ge (a := a * 2) (b := b / 2) (by omega) (by omega)
                    exact HH.out (by omega)
                  clear HI2
                  go_wp2
                  go_ret
                  exact ⟨ret_int HE.out.symm, rfl⟩
                · have HI3 := Lib.hid HI2; clear HI2
                  go_wp2
                  go_round
                  case rel => exact ⟨a * 2, b / 2, o + a, rfl, rfl, rfl, by omega, by omega, by omega, by omega, by omega, by omega, HI3.out⟩
                  case measure => simp [intOf]; omega

set_option maxHeartbeats 2000000 in
theorem power_any (a : Int) (N : Nat) (w : World) (ha0 : -9223372036854775808 ≤ a) (ha1 : a ≤ 9223372036854775807) (hN : N ≤ 9223372036854775807) :
    Calls Try.prog 35 #[.int .i64 a, .int .i64 N] w fun e w' => e = .returned (.int .i64 (powZ a N)) ∧ w = w' := by
  have HP := Lib.hid (pow_one N)
  go_enter Try.func35, Try.ntmps35
  go_wp2
  go_loop [1, 5] (fun n o => ∃ (k m : Nat) (q : Int), k + m ≤ N ∧ N ≤ k + m ∧ n = .int .i64 m ∧ o = .int .i64 q ∧ 0 ≤ q ∧ q ≤ 4611686018427387904 ∧ Hid (q = powZ a k)) (fun n _ => (intOf n).toNat)
  case atStart => exact ⟨0, N, 1, by omega, by omega, rfl, rfl, by omega, by omega, rfl⟩
  case round =>
    obtain ⟨k, m, q, hk, hk', rfl, rfl, hq0, hq1, HQ⟩ := hrel
    by_cases hm : m = 0
    · have HE : Hid (q = powZ a N) := by unfold Hid; rw [HQ.out]; congr 1; omega
      have hm0 : (m : Int) ≤ 0 := by omega
      clear hm
      go_wp2
      go_ret
      exact ⟨ret_int HE.out, rfl⟩
    · have hm1 : (0 : Int) < m := by omega
      by_cases hq : q < 4611686018427387904
      · have HS : Hid (timesZ q a = powZ a (k + 1)) := by unfold Hid; rw [HQ.out]; rfl
        have hb := times_bd q a
        obtain ⟨r, hr⟩ : ∃ r, r = timesZ q a := ⟨_, rfl⟩
        rw [← hr] at hb HS
        have HR := Lib.hid hr; clear hr
        obtain ⟨hb0, hb1⟩ := hb
        have hmz : ((m - 1 : Nat) : Int) = (m : Int) - 1 := by omega
        have HMZ := Lib.hid hmz; clear hmz hm
        by_cases hr0 : r = 0
        · have HE : Hid (r = powZ a N) := by
            have := pow_zero_stays a (k + 1) (N - (k + 1)) (by rw [← HS.out]; exact hr0)
            unfold Hid; rw [hr0, ← this]; congr 1; omega
          have hrb : (r == 0) = true := by simp [hr0]
          clear hr0
          go_wp2_with (go_at_call 33; refine (times_any q a _ ha0 ha1).mono ?_; rintro e w' ⟨rfl, rfl⟩; rw [← HR.out])
          go_ret
          exact ⟨ret_int HE.out, rfl⟩
        · have hrb : (r == 0) = false := by simp [hr0]
          clear hr0
          by_cases ha : a = 1
          · subst ha
            have HE : Hid (r = powZ 1 N) := by unfold Hid; rw [HS.out, pow_one, HP.out]
            go_wp2_with (go_at_call 33; refine (times_any q _ _ ha0 ha1).mono ?_; rintro e w' ⟨rfl, rfl⟩; rw [← HR.out])
            go_ret
            exact ⟨ret_int HE.out, rfl⟩
          · have hab : (a == 1) = false := by simp [ha]
            clear ha
            go_wp2_with (go_at_call 33; refine (times_any q a _ ha0 ha1).mono ?_; rintro e w' ⟨rfl, rfl⟩; rw [← HR.out])
            go_round
            case rel => exact ⟨k + 1, m - 1, r, by omega, by omega, int_eq HMZ.out.symm, rfl, hb0, hb1, HS⟩
            case measure => simp [intOf]; omega
      · have HE : Hid (q = powZ a N) := by
          have := pow_most_stays a k (N - k) (by rw [← HQ.out]; omega)
          unfold Hid; rw [HQ.out, ← this]; congr 1; omega
        clear hm
        go_wp2
        go_ret
        exact ⟨ret_int HE.out, rfl⟩

set_option maxHeartbeats 2000000 in
theorem rpower_any (a : Int) (N : Nat) (w : World) (_ha0 : -9223372036854775808 ≤ a) (ha1 : a ≤ 9223372036854775807) (hN : N ≤ 100) :
    Calls Try.prog 36 #[.int .i64 a, .int .i64 N] w fun e w' => e = .returned (.int .i64 (powZ a N)) ∧ w = w' := by
  go_enter Try.func36, Try.ntmps36
  go_wp2
  go_loop [5, 6] (fun o i => ∃ (k : Nat) (q : Int), k ≤ N ∧ i = .int .i64 k ∧ o = .int .i64 q ∧ 0 ≤ q ∧ q ≤ 4611686018427387904 ∧ Hid (q = powZ a k)) (fun _ i => N - (intOf i).toNat)
  case atStart => exact ⟨0, 1, by omega, rfl, rfl, by omega, by omega, rfl⟩
  case round =>
    obtain ⟨k, q, hk, rfl, rfl, hq0, hq1, HQ⟩ := hrel
    by_cases hlt : k < N
    · have HS : Hid (timesZ q a = powZ a (k + 1)) := by unfold Hid; rw [HQ.out]; rfl
      have hb := Lib.hid (times_bd q a)
      go_wp2_with (go_at_call 34; refine (rtimes_any q a _ (by omega) ha1).mono ?_; rintro e w' ⟨rfl, rfl⟩)
      go_round
      case rel => exact ⟨k + 1, _, by omega, by go_num, rfl, hb.out.1, hb.out.2, HS⟩
      case measure => simp [intOf]; omega
    · obtain rfl : N = k := by omega
      go_wp2
      go_ret
      exact ⟨ret_int HQ.out, rfl⟩

end Go.Proofs.Ytbhmimegcnfjcaa
