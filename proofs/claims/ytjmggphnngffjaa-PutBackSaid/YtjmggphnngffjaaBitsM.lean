/- Contracts of Put, Of, Count, Within, First and Same. -/
import Derived.Test.YtjmggphnngffjaaBitsL
namespace Go.Proofs.Ytjmggphnngffjaa
open Go.RowKit

set_option maxHeartbeats 1000000 in
theorem put_any (s i : Int) (is : Bool) (w : World) (hs0 : -9223372036854775808 ≤ s) (hs1 : s ≤ 9223372036854775807) :
    Calls Try.prog 39 #[.int .i64 s, .int .i64 i, .bool is] w fun e w' => e = .returned (.int .i64 (putZ s i is)) ∧ Below w.heap.size w w' := by
  have HB := Lib.hid (truths_len s 31)
  by_cases h : 0 ≤ i ∧ i ≤ 30
  · obtain ⟨h0, h1⟩ := h
    obtain ⟨n, rfl⟩ := Int.eq_ofNat_of_zero_le h0
    have hn : n < 31 := by omega
    have HS := Lib.hid (set_truths s n is (by omega))
    go_enter Try.func39, Try.ntmps39
    go_wp2_with fail
    refine (in_any s _ hs0 hs1).mono ?_
    rintro e w1 ⟨v, rfl, hown, hb⟩
    obtain ⟨g, cap, rfl, hg, hgs⟩ := owns_shape hown (by omega)
    have hcell := World.ownsRow.cellAt hown n (by omega)
    have hfr := World.ownsRow.frozenAt hown n
    obtain ⟨bv, hbv⟩ : ∃ bv, (bools (truths s 31))[n]? = some bv := ⟨_, List.getElem?_eq_getElem (by rw [bools_len, HB.out]; exact hn)⟩
    rw [hbv] at hcell
    have hst := (World.ownsRow.stored hown n (.bool is)).1
    have hb' : Below w.heap.size w (w1.setCell ⟨g, n, none⟩ (.bool is)) := hb.setCell hg _
    rw [show (bools (truths s 31)).set n (.bool is) = bools ((truths s 31).set n is) by simp [bools, List.map_set]] at hst
    clear hbv hown hb
    have HST := Lib.hid hst; clear hst
    have HBL := Lib.hid hb'; clear hb'
    go_wp2_with (go_at_call 63; refine (sum_any _ ((truths s 31).set n is) _ (by rw [List.length_set]; exact HB.out) (Reads.of_owns HST.out)).mono ?_; rintro e w' ⟨rfl, rfl⟩)
    go_ret
    exact ⟨ret_int HS.out, HBL.out⟩
  · have h' : i < 0 ∨ 30 < i := by omega
    have HS : Hid (((sumB (truths s 31) : Nat) : Int) = putZ s i is) := by unfold Hid; rw [putZ_out s i is h', ← sum_truths]; rfl
    clear h
    rcases h' with h | h
    all_goals
      go_enter Try.func39, Try.ntmps39
      go_wp2_with fail
      refine (in_any s _ hs0 hs1).mono ?_
      rintro e w1 ⟨v, rfl, hown, hb⟩
      have HST := Lib.hid hown; clear hown
      have HBL := Lib.hid hb; clear hb
      go_wp2_with (go_at_call 63; refine (sum_any _ (truths s 31) _ HB.out (Reads.of_owns HST.out)).mono ?_; rintro e w' ⟨rfl, rfl⟩)
      go_ret
      exact ⟨ret_int HS.out, HBL.out⟩

set_option maxHeartbeats 1000000 in
theorem of_any (v : Value) (l : List Int) (w : World) (hv : Reads w v (ints l)) :
    Calls Try.prog 33 #[v] w fun e w' => e = .returned (.int .i64 (ofL l)) ∧ w = w' := by
  have hz : ofL (l.take 0) = 0 := rfl
  rcases hv with ⟨ad, cap, rfl, h0⟩ | ⟨b, off, cap, rfl, _, hm, hc⟩
  · have hl : l = [] := by simpa [ints] using h0
    subst hl
    go_enter Try.func33, Try.ntmps33
    go_wp2
    refine wp_loop_rounds 1 ?_
    rw [rounds_succ]
    go_wp2
    go_ret
    exact ⟨rfl, rfl⟩
  · rw [ints_len] at hm ⊢
    unfold maxLen at hm
    have HC := Lib.hid hc; clear hc
    obtain ⟨n, hn⟩ : ∃ n, n = l.length := ⟨_, rfl⟩
    rw [← hn] at hm ⊢
    have HN := Lib.hid hn; clear hn hz
    go_enter Try.func33, Try.ntmps33
    go_wp2
    go_loop [3, 5, 8] (fun s _ i => ∃ (k : Nat) (a : Int), k ≤ n ∧ i = .int .i64 k ∧ s = .int .i64 a ∧ Hid (a = ofL (l.take k))) (fun _ _ i => n - (intOf i).toNat)
    case atStart => exact ⟨0, 0, Nat.zero_le _, rfl, rfl, rfl⟩
    case round =>
      obtain ⟨k, a, hk, rfl, rfl, HA⟩ := hrel
      by_cases hlt : k < n
      · obtain ⟨x, hx⟩ : ∃ x, l[k]? = some x := ⟨_, List.getElem?_eq_getElem (by rw [← HN.out]; exact hlt)⟩
        have hcell : w.cell? ⟨b, off + k, none⟩ = some (.int .i64 x) := HC.out k _ (by simp [ints, hx])
        have HS : Hid (putZ a x true = ofL (l.take (k + 1))) := by unfold Hid; rw [List.take_add_one, hx, HA.out]; exact (ofL_snoc _ _).symm
        clear hx
        go_wp2_with (go_at_call 54; refine (with_any _ _ _).mono ?_; rintro e w' ⟨rfl, rfl⟩)
        go_round
        case rel => exact ⟨k + 1, _, by omega, by go_num, rfl, HS⟩
        case measure => simp [intOf]; omega
      · obtain rfl : n = k := by omega
        have HE : Hid (a = ofL l) := by unfold Hid; rw [HA.out, HN.out, List.take_length]
        go_wp2
        go_ret
        exact ⟨ret_int HE.out, rfl⟩

theorem all_range_succ (f : Nat → Bool) (k : Nat) : (List.range (k + 1)).all f = ((List.range k).all f && f k) := by
  rw [List.range_succ, List.all_append]; simp

theorem first_mid (n : Int) (h0 : 0 < n) (h1 : n ≤ 31) : wrap64 (wrap64 (2 ^ n.toNat) - 1) = firstZ n := by
  have e : ((2 : Int) ^ n.toNat) = ((2 ^ n.toNat : Nat) : Int) := by simp
  have hp : (2 : Nat) ^ n.toNat ≤ 2 ^ 31 := Nat.pow_le_pow_right (by omega) (by omega)
  have hq : 1 ≤ (2 : Nat) ^ n.toNat := Nat.one_le_two_pow
  have hc : clamp n = n.toNat := by unfold clamp; omega
  unfold firstZ
  rw [e, hc]
  generalize (2 : Nat) ^ n.toNat = m at *
  rw [IntWalk.wrap64_in (m : Int) ⟨by omega, by omega⟩, IntWalk.wrap64_in _ ⟨by omega, by omega⟩]
  omega

end Go.Proofs.Ytjmggphnngffjaa
