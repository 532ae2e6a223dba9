/- Contracts of Put, Of, Count, Within, First and Same. -/
import Derived.Test.YtbhmimegcnfjcaaBitsL
namespace Go.Proofs.Ytbhmimegcnfjcaa
open Go.RowKit

set_option maxHeartbeats 1000000 in
theorem put_any (s i : Int) (is : Bool) (w : World) (hs0 : -9223372036854775808 ≤ s) (hs1 : s ≤ 9223372036854775807) :
    Calls Try.prog 14 #[.int .i64 s, .int .i64 i, .bool is] w fun e w' => e = .returned (.int .i64 (putZ s i is)) ∧ Below w.heap.size w w' := by
  have HB := Lib.hid (truths_len s 31)
  by_cases h : 0 ≤ i ∧ i ≤ 30
  · obtain ⟨h0, h1⟩ := h
    obtain ⟨n, rfl⟩ := Int.eq_ofNat_of_zero_le h0
    have hn : n < 31 := by omega
    have HS := Lib.hid (set_truths s n is (by omega))
    go_enter Try.func14, Try.ntmps14
    go_wp2_with fail
    refine (in_any s _ hs0 hs1).mono ?_
    rintro e w1 ⟨v, rfl, hown, hb⟩
    obtain ⟨g, cap, rfl, hg, hgs⟩ := owns_shape hown (by omega)
    have hcell := World.ownsRow.cellAt hown n (by omega)
    have hfr := World.ownsRow.frozenAt hown n
    obtain ⟨bv, hbv⟩ : ∃ bv, (bools (truths s 31))[n]? = some bv := ⟨_, List.getElem?_eq_getElem (by rw [bools_len, HB.out]; exact hn)⟩
    rw [hbv] at hcell
    have hst := (World.ownsRow.stored hown n (.bool is)).1
    have hb' : Below w.heap.size w (w1.setCell ⟨g, n, none⟩ (.bool is)) := hb.setCell hg _
    rw [show (bools (truths s 31)).set n (.bool is) = bools ((truths s 31).set n is) by simp [bools, List.map_set]] at hst
    clear hbv hown hb
    have HST := Lib.hid hst; clear hst
    have HBL := Lib.hid hb'; clear hb'
    go_wp2_with (go_at_call 59; refine (sum_any _ ((truths s 31).set n is) _ (by rw [List.length_set]; exact HB.out) (Reads.of_owns HST.out)).mono ?_; rintro e w' ⟨rfl, rfl⟩)
    go_ret
    exact ⟨ret_int HS.out, HBL.out⟩
  · have h' : i < 0 ∨ 30 < i := by omega
    have HS : Hid (((sumB (truths s 31) : Nat) : Int) = putZ s i is) := by unfold Hid; rw [putZ_out s i is h', ← sum_truths]; rfl
    clear h
    rcases h' with h | h
    all_goals
      go_enter Try.func14, Try.ntmps14
      go_wp2_with fail
      refine (in_any s _ hs0 hs1).mono ?_
      rintro e w1 ⟨v, rfl, hown, hb⟩
      have HST := Lib.hid hown; clear hown
      have HBL := Lib.hid hb; clear hb
      go_wp2_with (go_at_call 59; refine (sum_any _ (truths s 31) _ HB.out (Reads.of_owns HST.out)).mono ?_; rintro e w' ⟨rfl, rfl⟩)
      go_ret
      exact ⟨ret_int HS.out, HBL.out⟩

set_option maxHeartbeats 1000000 in
theorem of_any (v : Value) (l : List Int) (w : World) (hv : Reads w v (ints l)) :
    Calls Try.prog 21 #[v] w fun e w' => e = .returned (.int .i64 (ofL l)) ∧ w = w' := by
  have hz : ofL (l.take 0) = 0 := rfl
  rcases hv with ⟨ad, cap, rfl, h0⟩ | ⟨b, off, cap, rfl, _, hm, hc⟩
  · have hl : l = [] := by simpa [ints] using h0
    subst hl
    go_enter Try.func21, Try.ntmps21
    go_wp2
    refine wp_loop_rounds 1 ?_
    rw [rounds_succ]
    go_wp2
    go_ret
    exact ⟨rfl, rfl⟩
  · rw [ints_len] at hm ⊢
    unfold maxLen at hm
    have HC := Lib.hid hc; clear hc
    obtain ⟨n, hn⟩ : ∃ n, n = l.length := ⟨_, rfl⟩
    rw [← hn] at hm ⊢
    have HN := Lib.hid hn; clear hn hz
    go_enter Try.func21, Try.ntmps21
    go_wp2
    go_loop [3, 5, 8] (fun s _ i => ∃ (k : Nat) (a : Int), k ≤ n ∧ i = .int .i64 k ∧ s = .int .i64 a ∧ Hid (a = ofL (l.take k))) (fun _ _ i => n - (intOf i).toNat)
    case atStart => exact ⟨0, 0, Nat.zero_le _, rfl, rfl, rfl⟩
    case round =>
      obtain ⟨k, a, hk, rfl, rfl, HA⟩ := hrel
      by_cases hlt : k < n
      · obtain ⟨x, hx⟩ : ∃ x, l[k]? = some x := ⟨_, List.getElem?_eq_getElem (by rw [← HN.out]; exact hlt)⟩
        have hcell : w.cell? ⟨b, off + k, none⟩ = some (.int .i64 x) := HC.out k _ (by simp [ints, hx])
        have HS : Hid (putZ a x true = ofL (l.take (k + 1))) := by unfold Hid; rw [List.take_add_one, hx, HA.out]; exact (ofL_snoc _ _).symm
        clear hx
        go_wp2_with (go_at_call 24; refine (with_any _ _ _).mono ?_; rintro e w' ⟨rfl, rfl⟩)
        go_round
        case rel => exact ⟨k + 1, _, by omega, by go_num, rfl, HS⟩
        case measure => simp [intOf]; omega
      · obtain rfl : n = k := by omega
        have HE : Hid (a = ofL l) := by unfold Hid; rw [HA.out, HN.out, List.take_length]
        go_wp2
        go_ret
        exact ⟨ret_int HE.out, rfl⟩

set_option maxHeartbeats 400000 in
theorem count_any (s : Int) (w : World) :
    Calls Try.prog 18 #[.int .i64 s] w fun e w' => e = .returned (.int .i64 (listZ s 31).length) ∧ Below w.heap.size w w' := by
  go_enter Try.func18, Try.ntmps18
  go_wp2_with fail
  refine (list_any s _).mono ?_
  rintro e w1 ⟨v, rfl, hown, hb⟩
  obtain ⟨ad, cap, rfl⟩ : ∃ ad cap, v = .slice ad (listZ s 31).length cap := by
    rcases hown.2 with ⟨rfl, h0⟩ | ⟨g, cap, cur, rfl, _⟩
    · exact ⟨none, 0, by rw [h0]⟩
    · exact ⟨_, _, rfl⟩
  clear hown
  go_wp2
  go_ret
  exact ⟨rfl, hb⟩

set_option maxHeartbeats 400000 in
theorem within_any (a b : Int) (w : World) :
    Calls Try.prog 19 #[.int .i64 a, .int .i64 b] w fun e w' => e = .returned (.bool (withinB a b)) ∧ w = w' := by
  have HW := Lib.hid (within_word a b)
  have HZ := Lib.hid (within_zero a b)
  go_enter Try.func19, Try.ntmps19
  go_wp2
  go_ret
  exact ⟨ret_bool (by rw [← HZ.out, ← HW.out]), rfl⟩

theorem all_range_succ (f : Nat → Bool) (k : Nat) : (List.range (k + 1)).all f = ((List.range k).all f && f k) := by
  rw [List.range_succ, List.all_append]; simp

set_option maxHeartbeats 1000000 in
theorem rwithin_any (a b : Int) (w : World) (ha0 : -9223372036854775808 ≤ a) (ha1 : a ≤ 9223372036854775807) (hb0 : -9223372036854775808 ≤ b) (hb1 : b ≤ 9223372036854775807) :
    Calls Try.prog 20 #[.int .i64 a, .int .i64 b] w fun e w' => e = .returned (.bool (withinB a b)) ∧ w = w' := by
  go_enter Try.func20, Try.ntmps20
  go_wp2
  go_loop [5] (fun i => ∃ (k : Nat), k ≤ 31 ∧ i = .int .i64 k ∧ Hid ((List.range k).all (fun j => !hasN a j || hasN b j) = true)) (fun i => 31 - (intOf i).toNat)
  case atStart => exact ⟨0, Nat.zero_le _, rfl, rfl⟩
  case round =>
    obtain ⟨k, hk, rfl, HA⟩ := hrel
    by_cases hlt : k < 31
    · have ea : hasB a k = hasN a k := by unfold hasB; rw [if_pos (by omega)]; simp
      have eb : hasB b k = hasN b k := by unfold hasB; rw [if_pos (by omega)]; simp
      have HS : Hid ((List.range (k + 1)).all (fun j => !hasN a j || hasN b j) = (!hasN a k || hasN b k)) := by unfold Hid; rw [all_range_succ, HA.out]; simp
      have HF : Hid ((!hasN a k || hasN b k) = false → withinB a b = false) := by
        intro hf
        unfold withinB
        rw [List.all_eq_false]
        exact ⟨k, by simpa using hlt, by rw [hf]; simp⟩
      cases hA : hasN a k
      · rw [hA] at HS HF ea
        have H1 := Lib.hid ea; clear ea eb hA HF
        go_wp2_with (go_at_call 23; refine (rhas_any _ _ _ ha0 ha1).mono ?_; rintro e w' ⟨rfl, rfl⟩; rw [H1.out])
        go_round
        case rel => exact ⟨k + 1, by omega, by go_num, HS⟩
        case measure => simp [intOf]; omega
      · cases hB : hasN b k
        · rw [hA, hB] at HS HF
          rw [hA] at ea
          rw [hB] at eb
          have H1 := Lib.hid ea
          have H2 := Lib.hid eb
          clear ea eb hA hB
          go_wp2_with fail
          refine (rhas_any _ _ _ ha0 ha1).mono ?_; rintro e w' ⟨rfl, rfl⟩; rw [H1.out]
          go_wp2_with fail
          refine (rhas_any _ _ _ hb0 hb1).mono ?_; rintro e w' ⟨rfl, rfl⟩; rw [H2.out]
          go_wp2
          go_ret
          exact ⟨ret_bool (HF.out rfl).symm, rfl⟩
        · rw [hA, hB] at HS HF
          rw [hA] at ea
          rw [hB] at eb
          have H1 := Lib.hid ea
          have H2 := Lib.hid eb
          clear ea eb hA hB HF
          go_wp2_with fail
          refine (rhas_any _ _ _ ha0 ha1).mono ?_; rintro e w' ⟨rfl, rfl⟩; rw [H1.out]
          go_wp2_with fail
          refine (rhas_any _ _ _ hb0 hb1).mono ?_; rintro e w' ⟨rfl, rfl⟩; rw [H2.out]
          go_wp2
          go_round
          case rel => exact ⟨k + 1, by omega, by go_num, HS⟩
          case measure => simp [intOf]; omega
    · obtain rfl : k = 31 := by omega
      go_wp2
      go_ret
      exact ⟨ret_bool HA.out.symm, rfl⟩

theorem first_mid (n : Int) (h0 : 0 < n) (h1 : n ≤ 31) : wrap64 (wrap64 (2 ^ n.toNat) - 1) = firstZ n := by
  have e : ((2 : Int) ^ n.toNat) = ((2 ^ n.toNat : Nat) : Int) := by simp
  have hp : (2 : Nat) ^ n.toNat ≤ 2 ^ 31 := Nat.pow_le_pow_right (by omega) (by omega)
  have hq : 1 ≤ (2 : Nat) ^ n.toNat := Nat.one_le_two_pow
  have hc : clamp n = n.toNat := by unfold clamp; omega
  unfold firstZ
  rw [e, hc]
  generalize (2 : Nat) ^ n.toNat = m at *
  rw [IntWalk.wrap64_in (m : Int) ⟨by omega, by omega⟩, IntWalk.wrap64_in _ ⟨by omega, by omega⟩]
  omega

set_option maxHeartbeats 400000 in
theorem first_any (n : Int) (w : World) :
    Calls Try.prog 26 #[.int .i64 n] w fun e w' => e = .returned (.int .i64 (firstZ n)) ∧ w = w' := by
  rcases (show n ≤ 0 ∨ (0 < n ∧ n ≤ 31) ∨ 31 < n by omega) with h | ⟨h, h'⟩ | h
  · have H : Hid (firstZ n = 0) := by unfold Hid firstZ; rw [show clamp n = 0 by unfold clamp; omega]; rfl
    go_enter Try.func26, Try.ntmps26
    go_wp2
    go_ret
    exact ⟨ret_int (by rw [H.out]), rfl⟩
  · have H := Lib.hid (first_mid n h h')
    go_enter Try.func26, Try.ntmps26
    go_wp2
    go_ret
    exact ⟨ret_int H.out, rfl⟩
  · have H : Hid (firstZ n = 2147483647) := by unfold Hid firstZ; rw [show clamp n = 31 by unfold clamp; omega]; rfl
    go_enter Try.func26, Try.ntmps26
    go_wp2
    go_ret
    exact ⟨ret_int (by rw [H.out]), rfl⟩

set_option maxHeartbeats 1000000 in
theorem same_eq (v1 v2 : Value) (l : List Int) (w : World) (hv1 : Reads w v1 (ints l)) (hv2 : Reads w v2 (ints l)) :
    Calls Try.prog 15 #[v1, v2] w fun e w' => e = .returned (.bool true) ∧ Below w.heap.size w w' := by
  by_cases hl : l = []
  · subst hl
    rcases hv1 with ⟨ad1, cap1, rfl, h1⟩ | ⟨b1, off1, cap1, rfl, _, hm1, hc1⟩ <;> rcases hv2 with ⟨ad2, cap2, rfl, h2⟩ | ⟨b2, off2, cap2, rfl, _, hm2, hc2⟩
    all_goals
      try simp only [ints, List.map_nil, List.length_nil]
      go_enter Try.func15, Try.ntmps15
      go_wp2
      refine wp_loop_rounds 1 ?_
      rw [rounds_succ]
      go_wp2
      go_ret
      exact ⟨rfl, Below.refl _ _⟩
  · have hne : ints l ≠ [] := by simpa [ints] using hl
    rcases hv1 with ⟨ad1, cap1, rfl, h1⟩ | ⟨b1, off1, cap1, rfl, hlt1, hm1, hc1⟩
    · exact absurd h1 hne
    rcases hv2 with ⟨ad2, cap2, rfl, h2⟩ | ⟨b2, off2, cap2, rfl, hlt2, hm2, hc2⟩
    · exact absurd h2 hne
    clear hl hne
    rw [ints_len] at hm1 ⊢
    unfold maxLen at hm1
    clear hm2
    have HC1 := Lib.hid hc1; clear hc1
    have HC2 := Lib.hid hc2; clear hc2
    obtain ⟨n, hn⟩ : ∃ n, n = l.length := ⟨_, rfl⟩
    rw [← hn] at hm1 ⊢
    have HN := Lib.hid hn; clear hn
    go_enter Try.func15, Try.ntmps15
    go_wp2
    go_loopw [5] (fun i wr => ∃ (k : Nat), k ≤ n ∧ i = .int .i64 k ∧ Below w.heap.size w wr) (fun i _ => n - (intOf i).toNat)
    case atStart => exact ⟨0, Nat.zero_le _, rfl, Below.refl _ _⟩
    case round =>
      obtain ⟨k, hk, rfl, hb⟩ := hrel
      by_cases hlt : k < n
      · obtain ⟨x, hx⟩ : ∃ x, l[k]? = some x := ⟨_, List.getElem?_eq_getElem (by rw [← HN.out]; exact hlt)⟩
        have hcell1 : wr.cell? ⟨b1, off1 + k, none⟩ = some (.int .i64 x) := (hb.cell (p := ⟨b1, off1 + k, none⟩) hlt1).trans (HC1.out k _ (by simp [ints, hx]))
        have hcell2 : wr.cell? ⟨b2, off2 + k, none⟩ = some (.int .i64 x) := (hb.cell (p := ⟨b2, off2 + k, none⟩) hlt2).trans (HC2.out k _ (by simp [ints, hx]))
        have hlt' : (k : Int) < (n : Int) := by omega
        clear hx
        go_wp2
        go_quiet (fail)
        go_wp2
        go_roundw
        case rel => exact ⟨k + 1, by omega, by go_num, below_drewN hb _⟩
        case measure => simp [intOf]; omega
      · obtain rfl : n = k := by omega
        go_wp2
        go_ret
        exact ⟨rfl, hb⟩

end Go.Proofs.Ytbhmimegcnfjcaa
