/- Contracts of Cap, Clip, Merge of package halve and Cap, Clip of warderref21, for all whole numbers of 64 bits. -/
import Derived.Test.YtjmggphnngffjaaKit
namespace Go.Proofs.Ytjmggphnngffjaa
open Go.RowKit

/-- how much counts -/
def kapE (r : Int) : Nat := (min r 20).toNat
def kap (r : Int) : Nat := 2 ^ kapE r - 1
theorem kapE_le (r : Int) : kapE r ≤ 20 := by unfold kapE; omega
theorem kap_le (r : Int) : kap r ≤ 1048575 := by
  have h : (2 : Nat) ^ kapE r ≤ 2 ^ 20 := Nat.pow_le_pow_right (by omega) (kapE_le r)
  unfold kap; omega
theorem kap_low (r : Int) (h : r ≤ 0) : kap r = 0 := by unfold kap; rw [show kapE r = 0 by unfold kapE; omega]
theorem kap_high (r : Int) (h : 20 < r) : kap r = 1048575 := by unfold kap; rw [show kapE r = 20 by unfold kapE; omega]
def klip (g r : Int) : Int := max 0 (min g (kap r))
theorem klip_bd (g r : Int) : 0 ≤ klip g r ∧ klip g r ≤ kap r ∧ klip g r ≤ 1048575 := by have := kap_le r; unfold klip; omega
def merge (a b r : Int) : Int := klip (klip a r + klip b r + 1) r

theorem kap_mid (r : Int) (h0 : 0 < r) (h1 : r ≤ 20) : wrap64 (wrap64 (2 ^ r.toNat) - 1) = (kap r : Int) := by
  have hp : (2 : Nat) ^ r.toNat ≤ 2 ^ 20 := Nat.pow_le_pow_right (by omega) (by omega)
  have hp1 := Nat.one_le_two_pow (n := r.toNat)
  have e : ((2 : Int) ^ r.toNat) = ((2 ^ r.toNat : Nat) : Int) := by simp
  have hc : kapE r = r.toNat := by unfold kapE; omega
  unfold kap
  rw [e, hc]
  generalize (2 : Nat) ^ r.toNat = m at *
  rw [IntWalk.wrap64_in (m : Int) ⟨by omega, by omega⟩, IntWalk.wrap64_in _ ⟨by omega, by omega⟩]
  omega

set_option maxHeartbeats 400000 in
theorem cap_any (r : Int) (w : World) :
    Calls Try.prog 49 #[.int .i64 r] w fun e w' => e = .returned (.int .i64 (kap r)) ∧ w = w' := by
  rcases (show r ≤ 0 ∨ (0 < r ∧ r ≤ 20) ∨ 20 < r by omega) with h | ⟨h, h'⟩ | h
  · have H := Lib.hid (kap_low r h)
    go_enter Try.func49, Try.ntmps49
    go_wp2
    go_ret
    exact ⟨ret_int (by rw [H.out]; rfl), rfl⟩
  · have H := Lib.hid (kap_mid r h h')
    go_enter Try.func49, Try.ntmps49
    go_wp2
    go_ret
    exact ⟨ret_int H.out, rfl⟩
  · have H := Lib.hid (kap_high r h)
    go_enter Try.func49, Try.ntmps49
    go_wp2
    go_ret
    exact ⟨ret_int (by rw [H.out]; rfl), rfl⟩

set_option maxHeartbeats 400000 in
theorem clip_any (g r : Int) (w : World) :
    Calls Try.prog 69 #[.int .i64 g, .int .i64 r] w fun e w' => e = .returned (.int .i64 (klip g r)) ∧ w = w' := by
  obtain ⟨c, hc⟩ : ∃ c : Nat, kap r = c := ⟨_, rfl⟩
  have H : Hid (klip g r = max 0 (min g c)) := by unfold Hid klip; rw [hc]
  have HC := Lib.hid hc
  clear hc
  go_enter Try.func69, Try.ntmps69
  go_wp2_with (go_at_call 49; refine (cap_any r _).mono ?_; rintro e w' ⟨rfl, rfl⟩; rw [HC.out])
  all_goals
    go_ret
    exact ⟨ret_int (by rw [H.out]; omega), rfl⟩

theorem kap_succ (k : Nat) (h : k < 20) : kap (k + 1 : Nat) = 2 * kap k + 1 := by
  unfold kap
  rw [show kapE ((k + 1 : Nat) : Int) = k + 1 by unfold kapE; omega, show kapE (k : Int) = k by unfold kapE; omega, Nat.pow_succ]
  have := Nat.one_le_two_pow (n := k)
  omega

set_option maxHeartbeats 1000000 in
theorem rcap_any (r : Int) (w : World) :
    Calls Try.prog 15 #[.int .i64 r] w fun e w' => e = .returned (.int .i64 (kap r)) ∧ w = w' := by
  have H0 : Hid (kap 0 = 0) := by unfold Hid; exact kap_low 0 (by omega)
  have H20 : Hid (∀ k : Nat, k = kapE r → kap r = kap k) := by
    unfold Hid; intro k hk; unfold kap; rw [hk]; have := kapE_le r; rw [show kapE (kapE r : Int) = kapE r by unfold kapE at *; omega]
  obtain ⟨t, ht⟩ : ∃ t : Nat, t = kapE r := ⟨_, rfl⟩
  have ht20 : t ≤ 20 := by rw [ht]; exact kapE_le r
  have HT := Lib.hid ht
  have hr : (0 < r ∧ (t : Int) = min r 20) ∨ (r ≤ 0 ∧ t = 0) := by unfold kapE at ht; omega
  clear ht
  go_enter Try.func15, Try.ntmps15
  go_wp2
  go_loop [3, 4] (fun n i => ∃ (k m : Nat), k ≤ t ∧ i = .int .i64 k ∧ n = .int .i64 m ∧ m ≤ 1048575 ∧ Hid (m = kap k)) (fun _ i => t - (intOf i).toNat)
  case atStart => exact ⟨0, 0, Nat.zero_le _, rfl, rfl, by omega, H0.out.symm⟩
  case round =>
    obtain ⟨k, m, hk, rfl, rfl, hm, HM⟩ := hrel
    by_cases hlt : k < t
    · have HS : Hid (2 * m + 1 = kap (k + 1 : Nat)) := by unfold Hid; rw [HM.out, kap_succ k (by omega)]
      have hm' : 2 * m + 1 ≤ 1048575 := by rw [HS.out]; exact kap_le _
      have h1 : (k : Int) < r := by omega
      have h2 : (k : Int) < 20 := by omega
      clear hr
      go_wp2
      go_round
      case rel => exact ⟨k + 1, 2 * m + 1, by omega, by go_num, int_eq (by omega), hm', HS⟩
      case measure => simp [intOf]; omega
    · obtain rfl : k = t := by omega
      have HR : Hid ((m : Int) = kap r) := by unfold Hid; rw [HM.out, H20.out k HT.out]
      by_cases h1 : (k : Int) < r
      · have h2 : ¬ (k : Int) < 20 := by omega
        clear hr
        go_wp2
        go_ret
        exact ⟨ret_int (by rw [HR.out]), rfl⟩
      · clear hr
        go_wp2
        go_ret
        exact ⟨ret_int (by rw [HR.out]), rfl⟩

set_option maxHeartbeats 400000 in
theorem rclip_any (g r : Int) (w : World) :
    Calls Try.prog 22 #[.int .i64 g, .int .i64 r] w fun e w' => e = .returned (.int .i64 (klip g r)) ∧ w = w' := by
  obtain ⟨c, hc⟩ : ∃ c : Nat, kap r = c := ⟨_, rfl⟩
  have H : Hid (klip g r = max 0 (min g c)) := by unfold Hid klip; rw [hc]
  have HC := Lib.hid hc
  clear hc
  by_cases hg : g < 0
  · have H' : Hid (klip g r = 0) := by unfold Hid; rw [H.out]; omega
    go_enter Try.func22, Try.ntmps22
    go_wp2
    go_ret
    exact ⟨ret_int (by rw [H'.out]), rfl⟩
  · have H' : Hid (klip g r = min g c) := by unfold Hid; rw [H.out]; omega
    go_enter Try.func22, Try.ntmps22
    go_wp2_with (go_at_call 15; refine (rcap_any r _).mono ?_; rintro e w' ⟨rfl, rfl⟩; rw [HC.out])
    all_goals
      go_ret
      exact ⟨ret_int (by rw [H'.out]; omega), rfl⟩

end Go.Proofs.Ytjmggphnngffjaa
