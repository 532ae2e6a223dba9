/- Contracts of warderref01: tail, low, First. -/
import Derived.Test.YthlofmnmacpogaaGreatDoorDe01
import Derived.Test.YthlofmnmacpogaaGreatDoorDe15

namespace Go.Proofs.YthlofmnmacpogaaGreatDoor
open Go.RowKit

set_option maxHeartbeats 400000 in
theorem tail_any (s : ByteArray) (k least most : Int) (w : World) (h0 : 0 ≤ k) (_hs : s.size ≤ 4294967296) (hl : 0 ≤ least) (hm : 0 ≤ most) :
    Calls Tryz.prog 101 #[.string s, .int .i64 k, .int .i64 least, .int .i64 most] w fun e w' => e = .returned (.bool (tailB s k.toNat least.toNat most.toNat)) ∧ w = w' := by
  obtain ⟨n, rfl⟩ := Int.eq_ofNat_of_zero_le h0
  obtain ⟨a, rfl⟩ := Int.eq_ofNat_of_zero_le hl
  obtain ⟨b, rfl⟩ := Int.eq_ofNat_of_zero_le hm
  by_cases hn : n < s.size
  · obtain ⟨c, hc⟩ : ∃ c, (s[n]'hn).toNat = c := ⟨_, rfl⟩
    have hlt := byteAt_lt s n
    rw [byteAt_get s n hn, hc] at hlt
    have HT : Hid (tailB s n a b = (decide (a ≤ c) && decide (c ≤ b))) := by unfold Hid tailB; rw [byteAt_get s n hn, hc]; simp [hn]
    have hz : (n : Int) < (s.size : Int) := by omega
    by_cases h1 : a ≤ c
    · have h1z : (a : Int) ≤ (c : Int) := by omega
      go_enter Tryz.func101, Tryz.ntmps101
      go_wp2
      go_ret
      exact ⟨ret_bool (by (try simp only [Int.toNat_natCast]); rw [HT.out]; simp [h1]), rfl⟩
    · have h1z : ¬ (a : Int) ≤ (c : Int) := by omega
      go_enter Tryz.func101, Tryz.ntmps101
      go_wp2
      go_ret
      exact ⟨ret_bool (by (try simp only [Int.toNat_natCast]); rw [HT.out]; simp [h1]), rfl⟩
  · have HT : Hid (tailB s n a b = false) := by unfold Hid tailB; simp [hn]
    have hz : ¬ (n : Int) < (s.size : Int) := by omega
    go_enter Tryz.func101, Tryz.ntmps101
    go_wp2
    go_ret
    exact ⟨ret_bool (by (try simp only [Int.toNat_natCast]); rw [HT.out]), rfl⟩

set_option maxHeartbeats 400000 in
theorem low_any (s : ByteArray) (k : Int) (w : World) (h0 : 0 ≤ k) (hk : k < s.size) :
    Calls Tryz.prog 102 #[.string s, .int .i64 k] w fun e w' => e = .returned (.int .i64 (byteAt s k.toNat % 64 : Nat)) ∧ w = w' := by
  obtain ⟨n, rfl⟩ := Int.eq_ofNat_of_zero_le h0
  have hn : n < s.size := by omega
  obtain ⟨c, hc⟩ : ∃ c, (s[n]'hn).toNat = c := ⟨_, rfl⟩
  have hlt := byteAt_lt s n
  rw [byteAt_get s n hn, hc] at hlt
  have HT : Hid (byteAt s n = c) := by unfold Hid; rw [byteAt_get s n hn, hc]
  go_enter Tryz.func102, Tryz.ntmps102
  go_wp2
  go_ret
  exact ⟨ret_int (by (try simp only [Int.toNat_natCast]); rw [HT.out]; simp), rfl⟩

theorem tail_lt {s : ByteArray} {i a b : Nat} (h : tailB s i a b = true) : i < s.size := by
  unfold tailB at h; simp at h; exact h.1
theorem ret_two {a b c d : Int} (h1 : a = c) (h2 : b = d) : Ending.returned (.tuple #[.int .i64 a, .int .i64 b]) = .returned (.tuple #[.int .i64 c, .int .i64 d]) := by rw [h1, h2]

set_option maxRecDepth 100000 in
set_option maxHeartbeats 1000000 in
theorem first_A (s : ByteArray) (i c : Nat) (w : World) (hi : i < s.size) (_hs : s.size ≤ 4294967296) (hc : (s[i]'hi).toNat = c) (h : c < 128)  :
    Calls Tryz.prog 87 #[.string s, .int .i64 i] w fun e w' => e = .returned (.tuple #[.int .i64 (firstRef s i).1, .int .i64 (firstRef s i).2]) ∧ w = w' := by
  have HF : Hid ((firstRef s i).1 = (c : Int) ∧ (firstRef s i).2 = 1) := by
    have hcb : byteAt s i = c := by rw [byteAt_get s i hi, hc]
    unfold Hid firstRef
    simp only [hcb]
    first | (have q0 : c < 128 := by omega) | (have q0 : ¬ c < 128 := by omega)
    first | (have q4 : 194 ≤ c := by omega) | (have q4 : ¬ 194 ≤ c := by omega)
    first | (have q5 : c ≤ 223 := by omega) | (have q5 : ¬ c ≤ 223 := by omega)
    first | (have q6 : c = 240 := by omega) | (have q6 : ¬ c = 240 := by omega)
    first | (have q7 : c = 224 := by omega) | (have q7 : ¬ c = 224 := by omega)
    first | (have q8 : c = 244 := by omega) | (have q8 : ¬ c = 244 := by omega)
    first | (have q9 : c = 237 := by omega) | (have q9 : ¬ c = 237 := by omega)
    first | (have qa : 224 ≤ c := by omega) | (have qa : ¬ 224 ≤ c := by omega)
    first | (have qb : c ≤ 239 := by omega) | (have qb : ¬ c ≤ 239 := by omega)
    first | (have qc : 240 ≤ c := by omega) | (have qc : ¬ 240 ≤ c := by omega)
    first | (have qd : c ≤ 244 := by omega) | (have qd : ¬ c ≤ 244 := by omega)
    simp [*]
  have hiz : (i : Int) < (s.size : Int) := by omega
  first | (have z0 : (c : Int) < 128 := by omega) | (have z0 : ¬ (c : Int) < 128 := by omega)
  first | (have z4 : (194 : Int) ≤ c := by omega) | (have z4 : ¬ (194 : Int) ≤ c := by omega)
  first | (have z5 : (c : Int) ≤ 223 := by omega) | (have z5 : ¬ (c : Int) ≤ 223 := by omega)
  first | (have z10 : (224 : Int) ≤ c := by omega) | (have z10 : ¬ (224 : Int) ≤ c := by omega)
  first | (have z11 : (c : Int) ≤ 239 := by omega) | (have z11 : ¬ (c : Int) ≤ 239 := by omega)
  first | (have z12 : (240 : Int) ≤ c := by omega) | (have z12 : ¬ (240 : Int) ≤ c := by omega)
  first | (have z13 : (c : Int) ≤ 244 := by omega) | (have z13 : ¬ (c : Int) ≤ 244 := by omega)
  first | (have y0 : ((c : Int) == 224) = true := by rw [beq_iff_eq]; omega) | (have y0 : ((c : Int) == 224) = false := by rw [beq_eq_false_iff_ne]; omega)
  first | (have y1 : ((c : Int) == 237) = true := by rw [beq_iff_eq]; omega) | (have y1 : ((c : Int) == 237) = false := by rw [beq_eq_false_iff_ne]; omega)
  first | (have y2 : ((c : Int) == 240) = true := by rw [beq_iff_eq]; omega) | (have y2 : ((c : Int) == 240) = false := by rw [beq_eq_false_iff_ne]; omega)
  first | (have y3 : ((c : Int) == 244) = true := by rw [beq_iff_eq]; omega) | (have y3 : ((c : Int) == 244) = false := by rw [beq_eq_false_iff_ne]; omega)
  go_enter Tryz.func87, Tryz.ntmps87
  go_wp2_with (first | (go_at_call 101; refine (tail_any s _ _ _ _ (by omega) hs (by omega) (by omega)).mono ?_; rintro e w' ⟨rfl, rfl⟩) | (go_at_call 102; refine (low_any s _ _ (by omega) (by omega)).mono ?_; rintro e w' ⟨rfl, rfl⟩))
  go_ret2
  exact ⟨ret_two (by rw [HF.out.1] <;> first | rfl | (simp; done) | (simp; omega)) (by rw [HF.out.2] <;> first | rfl | (simp; done)), rfl⟩

set_option maxRecDepth 100000 in
set_option maxHeartbeats 1000000 in
theorem first_C1 (s : ByteArray) (i c : Nat) (w : World) (hi : i < s.size) (hs : s.size ≤ 4294967296) (hc : (s[i]'hi).toNat = c) (h : 194 ≤ c) (h' : c ≤ 223) (h1a : tailB s (i + 1) 128 191 = true) :
    Calls Tryz.prog 87 #[.string s, .int .i64 i] w fun e w' => e = .returned (.tuple #[.int .i64 (firstRef s i).1, .int .i64 (firstRef s i).2]) ∧ w = w' := by
  have HF : Hid ((firstRef s i).1 = ((c % 32 * 64 + byteAt s (i + 1) % 64 : Nat) : Int) ∧ (firstRef s i).2 = 2) := by
    have hcb : byteAt s i = c := by rw [byteAt_get s i hi, hc]
    unfold Hid firstRef
    simp only [hcb]
    first | (have q0 : c < 128 := by omega) | (have q0 : ¬ c < 128 := by omega)
    first | (have q4 : 194 ≤ c := by omega) | (have q4 : ¬ 194 ≤ c := by omega)
    first | (have q5 : c ≤ 223 := by omega) | (have q5 : ¬ c ≤ 223 := by omega)
    first | (have q6 : c = 240 := by omega) | (have q6 : ¬ c = 240 := by omega)
    first | (have q7 : c = 224 := by omega) | (have q7 : ¬ c = 224 := by omega)
    first | (have q8 : c = 244 := by omega) | (have q8 : ¬ c = 244 := by omega)
    first | (have q9 : c = 237 := by omega) | (have q9 : ¬ c = 237 := by omega)
    first | (have qa : 224 ≤ c := by omega) | (have qa : ¬ 224 ≤ c := by omega)
    first | (have qb : c ≤ 239 := by omega) | (have qb : ¬ c ≤ 239 := by omega)
    first | (have qc : 240 ≤ c := by omega) | (have qc : ¬ 240 ≤ c := by omega)
    first | (have qd : c ≤ 244 := by omega) | (have qd : ¬ c ≤ 244 := by omega)
    simp [*]
  have hiz : (i : Int) < (s.size : Int) := by omega
  have lh1a := tail_lt h1a
  first | (have z0 : (c : Int) < 128 := by omega) | (have z0 : ¬ (c : Int) < 128 := by omega)
  first | (have z4 : (194 : Int) ≤ c := by omega) | (have z4 : ¬ (194 : Int) ≤ c := by omega)
  first | (have z5 : (c : Int) ≤ 223 := by omega) | (have z5 : ¬ (c : Int) ≤ 223 := by omega)
  first | (have z10 : (224 : Int) ≤ c := by omega) | (have z10 : ¬ (224 : Int) ≤ c := by omega)
  first | (have z11 : (c : Int) ≤ 239 := by omega) | (have z11 : ¬ (c : Int) ≤ 239 := by omega)
  first | (have z12 : (240 : Int) ≤ c := by omega) | (have z12 : ¬ (240 : Int) ≤ c := by omega)
  first | (have z13 : (c : Int) ≤ 244 := by omega) | (have z13 : ¬ (c : Int) ≤ 244 := by omega)
  first | (have y0 : ((c : Int) == 224) = true := by rw [beq_iff_eq]; omega) | (have y0 : ((c : Int) == 224) = false := by rw [beq_eq_false_iff_ne]; omega)
  first | (have y1 : ((c : Int) == 237) = true := by rw [beq_iff_eq]; omega) | (have y1 : ((c : Int) == 237) = false := by rw [beq_eq_false_iff_ne]; omega)
  first | (have y2 : ((c : Int) == 240) = true := by rw [beq_iff_eq]; omega) | (have y2 : ((c : Int) == 240) = false := by rw [beq_eq_false_iff_ne]; omega)
  first | (have y3 : ((c : Int) == 244) = true := by rw [beq_iff_eq]; omega) | (have y3 : ((c : Int) == 244) = false := by rw [beq_eq_false_iff_ne]; omega)
  go_enter Tryz.func87, Tryz.ntmps87
  go_wp2_with (first | (go_at_call 101; refine (tail_any s _ _ _ _ (by omega) hs (by omega) (by omega)).mono ?_; rintro e w' ⟨rfl, rfl⟩) | (go_at_call 102; refine (low_any s _ _ (by omega) (by omega)).mono ?_; rintro e w' ⟨rfl, rfl⟩))
  go_ret2
  exact ⟨ret_two (by rw [HF.out.1] <;> first | rfl | (simp; done) | (simp; omega)) (by rw [HF.out.2] <;> first | rfl | (simp; done)), rfl⟩

set_option maxRecDepth 100000 in
set_option maxHeartbeats 1000000 in
theorem first_C0 (s : ByteArray) (i c : Nat) (w : World) (hi : i < s.size) (hs : s.size ≤ 4294967296) (hc : (s[i]'hi).toNat = c) (h : 194 ≤ c) (h' : c ≤ 223) (h1a : tailB s (i + 1) 128 191 = false) :
    Calls Tryz.prog 87 #[.string s, .int .i64 i] w fun e w' => e = .returned (.tuple #[.int .i64 (firstRef s i).1, .int .i64 (firstRef s i).2]) ∧ w = w' := by
  have HF : Hid ((firstRef s i).1 = (-1 : Int) ∧ (firstRef s i).2 = 1) := by
    have hcb : byteAt s i = c := by rw [byteAt_get s i hi, hc]
    unfold Hid firstRef
    simp only [hcb]
    first | (have q0 : c < 128 := by omega) | (have q0 : ¬ c < 128 := by omega)
    first | (have q4 : 194 ≤ c := by omega) | (have q4 : ¬ 194 ≤ c := by omega)
    first | (have q5 : c ≤ 223 := by omega) | (have q5 : ¬ c ≤ 223 := by omega)
    first | (have q6 : c = 240 := by omega) | (have q6 : ¬ c = 240 := by omega)
    first | (have q7 : c = 224 := by omega) | (have q7 : ¬ c = 224 := by omega)
    first | (have q8 : c = 244 := by omega) | (have q8 : ¬ c = 244 := by omega)
    first | (have q9 : c = 237 := by omega) | (have q9 : ¬ c = 237 := by omega)
    first | (have qa : 224 ≤ c := by omega) | (have qa : ¬ 224 ≤ c := by omega)
    first | (have qb : c ≤ 239 := by omega) | (have qb : ¬ c ≤ 239 := by omega)
    first | (have qc : 240 ≤ c := by omega) | (have qc : ¬ 240 ≤ c := by omega)
    first | (have qd : c ≤ 244 := by omega) | (have qd : ¬ c ≤ 244 := by omega)
    simp [*]
  have hiz : (i : Int) < (s.size : Int) := by omega
  first | (have z0 : (c : Int) < 128 := by omega) | (have z0 : ¬ (c : Int) < 128 := by omega)
  first | (have z4 : (194 : Int) ≤ c := by omega) | (have z4 : ¬ (194 : Int) ≤ c := by omega)
  first | (have z5 : (c : Int) ≤ 223 := by omega) | (have z5 : ¬ (c : Int) ≤ 223 := by omega)
  first | (have z10 : (224 : Int) ≤ c := by omega) | (have z10 : ¬ (224 : Int) ≤ c := by omega)
  first | (have z11 : (c : Int) ≤ 239 := by omega) | (have z11 : ¬ (c : Int) ≤ 239 := by omega)
  first | (have z12 : (240 : Int) ≤ c := by omega) | (have z12 : ¬ (240 : Int) ≤ c := by omega)
  first | (have z13 : (c : Int) ≤ 244 := by omega) | (have z13 : ¬ (c : Int) ≤ 244 := by omega)
  first | (have y0 : ((c : Int) == 224) = true := by rw [beq_iff_eq]; omega) | (have y0 : ((c : Int) == 224) = false := by rw [beq_eq_false_iff_ne]; omega)
  first | (have y1 : ((c : Int) == 237) = true := by rw [beq_iff_eq]; omega) | (have y1 : ((c : Int) == 237) = false := by rw [beq_eq_false_iff_ne]; omega)
  first | (have y2 : ((c : Int) == 240) = true := by rw [beq_iff_eq]; omega) | (have y2 : ((c : Int) == 240) = false := by rw [beq_eq_false_iff_ne]; omega)
  first | (have y3 : ((c : Int) == 244) = true := by rw [beq_iff_eq]; omega) | (have y3 : ((c : Int) == 244) = false := by rw [beq_eq_false_iff_ne]; omega)
  go_enter Tryz.func87, Tryz.ntmps87
  go_wp2_with (first | (go_at_call 101; refine (tail_any s _ _ _ _ (by omega) hs (by omega) (by omega)).mono ?_; rintro e w' ⟨rfl, rfl⟩) | (go_at_call 102; refine (low_any s _ _ (by omega) (by omega)).mono ?_; rintro e w' ⟨rfl, rfl⟩))
  go_ret2
  exact ⟨ret_two (by rw [HF.out.1] <;> first | rfl | (simp; done) | (simp; omega)) (by rw [HF.out.2] <;> first | rfl | (simp; done)), rfl⟩

set_option maxRecDepth 100000 in
set_option maxHeartbeats 1000000 in
theorem first_B0 (s : ByteArray) (i c : Nat) (w : World) (hi : i < s.size) (hs : s.size ≤ 4294967296) (hc : (s[i]'hi).toNat = c) (h : 128 ≤ c) (h' : c ≤ 193) (h1a : tailB s (i + 1) 128 191 = false) :
    Calls Tryz.prog 87 #[.string s, .int .i64 i] w fun e w' => e = .returned (.tuple #[.int .i64 (firstRef s i).1, .int .i64 (firstRef s i).2]) ∧ w = w' := by
  have HF : Hid ((firstRef s i).1 = (-1 : Int) ∧ (firstRef s i).2 = 1) := by
    have hcb : byteAt s i = c := by rw [byteAt_get s i hi, hc]
    unfold Hid firstRef
    simp only [hcb]
    first | (have q0 : c < 128 := by omega) | (have q0 : ¬ c < 128 := by omega)
    first | (have q4 : 194 ≤ c := by omega) | (have q4 : ¬ 194 ≤ c := by omega)
    first | (have q5 : c ≤ 223 := by omega) | (have q5 : ¬ c ≤ 223 := by omega)
    first | (have q6 : c = 240 := by omega) | (have q6 : ¬ c = 240 := by omega)
    first | (have q7 : c = 224 := by omega) | (have q7 : ¬ c = 224 := by omega)
    first | (have q8 : c = 244 := by omega) | (have q8 : ¬ c = 244 := by omega)
    first | (have q9 : c = 237 := by omega) | (have q9 : ¬ c = 237 := by omega)
    first | (have qa : 224 ≤ c := by omega) | (have qa : ¬ 224 ≤ c := by omega)
    first | (have qb : c ≤ 239 := by omega) | (have qb : ¬ c ≤ 239 := by omega)
    first | (have qc : 240 ≤ c := by omega) | (have qc : ¬ 240 ≤ c := by omega)
    first | (have qd : c ≤ 244 := by omega) | (have qd : ¬ c ≤ 244 := by omega)
    simp [*]
  have hiz : (i : Int) < (s.size : Int) := by omega
  first | (have z0 : (c : Int) < 128 := by omega) | (have z0 : ¬ (c : Int) < 128 := by omega)
  first | (have z4 : (194 : Int) ≤ c := by omega) | (have z4 : ¬ (194 : Int) ≤ c := by omega)
  first | (have z5 : (c : Int) ≤ 223 := by omega) | (have z5 : ¬ (c : Int) ≤ 223 := by omega)
  first | (have z10 : (224 : Int) ≤ c := by omega) | (have z10 : ¬ (224 : Int) ≤ c := by omega)
  first | (have z11 : (c : Int) ≤ 239 := by omega) | (have z11 : ¬ (c : Int) ≤ 239 := by omega)
  first | (have z12 : (240 : Int) ≤ c := by omega) | (have z12 : ¬ (240 : Int) ≤ c := by omega)
  first | (have z13 : (c : Int) ≤ 244 := by omega) | (have z13 : ¬ (c : Int) ≤ 244 := by omega)
  first | (have y0 : ((c : Int) == 224) = true := by rw [beq_iff_eq]; omega) | (have y0 : ((c : Int) == 224) = false := by rw [beq_eq_false_iff_ne]; omega)
  first | (have y1 : ((c : Int) == 237) = true := by rw [beq_iff_eq]; omega) | (have y1 : ((c : Int) == 237) = false := by rw [beq_eq_false_iff_ne]; omega)
  first | (have y2 : ((c : Int) == 240) = true := by rw [beq_iff_eq]; omega) | (have y2 : ((c : Int) == 240) = false := by rw [beq_eq_false_iff_ne]; omega)
  first | (have y3 : ((c : Int) == 244) = true := by rw [beq_iff_eq]; omega) | (have y3 : ((c : Int) == 244) = false := by rw [beq_eq_false_iff_ne]; omega)
  go_enter Tryz.func87, Tryz.ntmps87
  go_wp2_with (first | (go_at_call 101; refine (tail_any s _ _ _ _ (by omega) hs (by omega) (by omega)).mono ?_; rintro e w' ⟨rfl, rfl⟩) | (go_at_call 102; refine (low_any s _ _ (by omega) (by omega)).mono ?_; rintro e w' ⟨rfl, rfl⟩))
  go_ret2
  exact ⟨ret_two (by rw [HF.out.1] <;> first | rfl | (simp; done) | (simp; omega)) (by rw [HF.out.2] <;> first | rfl | (simp; done)), rfl⟩

set_option maxRecDepth 100000 in
set_option maxHeartbeats 1000000 in
theorem first_B10 (s : ByteArray) (i c : Nat) (w : World) (hi : i < s.size) (hs : s.size ≤ 4294967296) (hc : (s[i]'hi).toNat = c) (h : 128 ≤ c) (h' : c ≤ 193) (h1a : tailB s (i + 1) 128 191 = true) (h2b : tailB s (i + 2) 128 191 = false) :
    Calls Tryz.prog 87 #[.string s, .int .i64 i] w fun e w' => e = .returned (.tuple #[.int .i64 (firstRef s i).1, .int .i64 (firstRef s i).2]) ∧ w = w' := by
  have HF : Hid ((firstRef s i).1 = (-1 : Int) ∧ (firstRef s i).2 = 1) := by
    have hcb : byteAt s i = c := by rw [byteAt_get s i hi, hc]
    unfold Hid firstRef
    simp only [hcb]
    first | (have q0 : c < 128 := by omega) | (have q0 : ¬ c < 128 := by omega)
    first | (have q4 : 194 ≤ c := by omega) | (have q4 : ¬ 194 ≤ c := by omega)
    first | (have q5 : c ≤ 223 := by omega) | (have q5 : ¬ c ≤ 223 := by omega)
    first | (have q6 : c = 240 := by omega) | (have q6 : ¬ c = 240 := by omega)
    first | (have q7 : c = 224 := by omega) | (have q7 : ¬ c = 224 := by omega)
    first | (have q8 : c = 244 := by omega) | (have q8 : ¬ c = 244 := by omega)
    first | (have q9 : c = 237 := by omega) | (have q9 : ¬ c = 237 := by omega)
    first | (have qa : 224 ≤ c := by omega) | (have qa : ¬ 224 ≤ c := by omega)
    first | (have qb : c ≤ 239 := by omega) | (have qb : ¬ c ≤ 239 := by omega)
    first | (have qc : 240 ≤ c := by omega) | (have qc : ¬ 240 ≤ c := by omega)
    first | (have qd : c ≤ 244 := by omega) | (have qd : ¬ c ≤ 244 := by omega)
    simp [*]
  have hiz : (i : Int) < (s.size : Int) := by omega
  have lh1a := tail_lt h1a
  first | (have z0 : (c : Int) < 128 := by omega) | (have z0 : ¬ (c : Int) < 128 := by omega)
  first | (have z4 : (194 : Int) ≤ c := by omega) | (have z4 : ¬ (194 : Int) ≤ c := by omega)
  first | (have z5 : (c : Int) ≤ 223 := by omega) | (have z5 : ¬ (c : Int) ≤ 223 := by omega)
  first | (have z10 : (224 : Int) ≤ c := by omega) | (have z10 : ¬ (224 : Int) ≤ c := by omega)
  first | (have z11 : (c : Int) ≤ 239 := by omega) | (have z11 : ¬ (c : Int) ≤ 239 := by omega)
  first | (have z12 : (240 : Int) ≤ c := by omega) | (have z12 : ¬ (240 : Int) ≤ c := by omega)
  first | (have z13 : (c : Int) ≤ 244 := by omega) | (have z13 : ¬ (c : Int) ≤ 244 := by omega)
  first | (have y0 : ((c : Int) == 224) = true := by rw [beq_iff_eq]; omega) | (have y0 : ((c : Int) == 224) = false := by rw [beq_eq_false_iff_ne]; omega)
  first | (have y1 : ((c : Int) == 237) = true := by rw [beq_iff_eq]; omega) | (have y1 : ((c : Int) == 237) = false := by rw [beq_eq_false_iff_ne]; omega)
  first | (have y2 : ((c : Int) == 240) = true := by rw [beq_iff_eq]; omega) | (have y2 : ((c : Int) == 240) = false := by rw [beq_eq_false_iff_ne]; omega)
  first | (have y3 : ((c : Int) == 244) = true := by rw [beq_iff_eq]; omega) | (have y3 : ((c : Int) == 244) = false := by rw [beq_eq_false_iff_ne]; omega)
  go_enter Tryz.func87, Tryz.ntmps87
  go_wp2_with (first | (go_at_call 101; refine (tail_any s _ _ _ _ (by omega) hs (by omega) (by omega)).mono ?_; rintro e w' ⟨rfl, rfl⟩) | (go_at_call 102; refine (low_any s _ _ (by omega) (by omega)).mono ?_; rintro e w' ⟨rfl, rfl⟩))
  go_ret2
  exact ⟨ret_two (by rw [HF.out.1] <;> first | rfl | (simp; done) | (simp; omega)) (by rw [HF.out.2] <;> first | rfl | (simp; done)), rfl⟩

set_option maxRecDepth 100000 in
set_option maxHeartbeats 1000000 in
theorem first_B11 (s : ByteArray) (i c : Nat) (w : World) (hi : i < s.size) (hs : s.size ≤ 4294967296) (hc : (s[i]'hi).toNat = c) (h : 128 ≤ c) (h' : c ≤ 193) (h1a : tailB s (i + 1) 128 191 = true) (h2b : tailB s (i + 2) 128 191 = true) :
    Calls Tryz.prog 87 #[.string s, .int .i64 i] w fun e w' => e = .returned (.tuple #[.int .i64 (firstRef s i).1, .int .i64 (firstRef s i).2]) ∧ w = w' := by
  have HF : Hid ((firstRef s i).1 = (-1 : Int) ∧ (firstRef s i).2 = 1) := by
    have hcb : byteAt s i = c := by rw [byteAt_get s i hi, hc]
    unfold Hid firstRef
    simp only [hcb]
    first | (have q0 : c < 128 := by omega) | (have q0 : ¬ c < 128 := by omega)
    first | (have q4 : 194 ≤ c := by omega) | (have q4 : ¬ 194 ≤ c := by omega)
    first | (have q5 : c ≤ 223 := by omega) | (have q5 : ¬ c ≤ 223 := by omega)
    first | (have q6 : c = 240 := by omega) | (have q6 : ¬ c = 240 := by omega)
    first | (have q7 : c = 224 := by omega) | (have q7 : ¬ c = 224 := by omega)
    first | (have q8 : c = 244 := by omega) | (have q8 : ¬ c = 244 := by omega)
    first | (have q9 : c = 237 := by omega) | (have q9 : ¬ c = 237 := by omega)
    first | (have qa : 224 ≤ c := by omega) | (have qa : ¬ 224 ≤ c := by omega)
    first | (have qb : c ≤ 239 := by omega) | (have qb : ¬ c ≤ 239 := by omega)
    first | (have qc : 240 ≤ c := by omega) | (have qc : ¬ 240 ≤ c := by omega)
    first | (have qd : c ≤ 244 := by omega) | (have qd : ¬ c ≤ 244 := by omega)
    simp [*]
  have hiz : (i : Int) < (s.size : Int) := by omega
  have lh1a := tail_lt h1a
  have lh2b := tail_lt h2b
  first | (have z0 : (c : Int) < 128 := by omega) | (have z0 : ¬ (c : Int) < 128 := by omega)
  first | (have z4 : (194 : Int) ≤ c := by omega) | (have z4 : ¬ (194 : Int) ≤ c := by omega)
  first | (have z5 : (c : Int) ≤ 223 := by omega) | (have z5 : ¬ (c : Int) ≤ 223 := by omega)
  first | (have z10 : (224 : Int) ≤ c := by omega) | (have z10 : ¬ (224 : Int) ≤ c := by omega)
  first | (have z11 : (c : Int) ≤ 239 := by omega) | (have z11 : ¬ (c : Int) ≤ 239 := by omega)
  first | (have z12 : (240 : Int) ≤ c := by omega) | (have z12 : ¬ (240 : Int) ≤ c := by omega)
  first | (have z13 : (c : Int) ≤ 244 := by omega) | (have z13 : ¬ (c : Int) ≤ 244 := by omega)
  first | (have y0 : ((c : Int) == 224) = true := by rw [beq_iff_eq]; omega) | (have y0 : ((c : Int) == 224) = false := by rw [beq_eq_false_iff_ne]; omega)
  first | (have y1 : ((c : Int) == 237) = true := by rw [beq_iff_eq]; omega) | (have y1 : ((c : Int) == 237) = false := by rw [beq_eq_false_iff_ne]; omega)
  first | (have y2 : ((c : Int) == 240) = true := by rw [beq_iff_eq]; omega) | (have y2 : ((c : Int) == 240) = false := by rw [beq_eq_false_iff_ne]; omega)
  first | (have y3 : ((c : Int) == 244) = true := by rw [beq_iff_eq]; omega) | (have y3 : ((c : Int) == 244) = false := by rw [beq_eq_false_iff_ne]; omega)
  go_enter Tryz.func87, Tryz.ntmps87
  go_wp2_with (first | (go_at_call 101; refine (tail_any s _ _ _ _ (by omega) hs (by omega) (by omega)).mono ?_; rintro e w' ⟨rfl, rfl⟩) | (go_at_call 102; refine (low_any s _ _ (by omega) (by omega)).mono ?_; rintro e w' ⟨rfl, rfl⟩))
  go_ret2
  exact ⟨ret_two (by rw [HF.out.1] <;> first | rfl | (simp; done) | (simp; omega)) (by rw [HF.out.2] <;> first | rfl | (simp; done)), rfl⟩

set_option maxRecDepth 100000 in
set_option maxHeartbeats 1000000 in
theorem first_K0 (s : ByteArray) (i c : Nat) (w : World) (hi : i < s.size) (hs : s.size ≤ 4294967296) (hc : (s[i]'hi).toNat = c) (h : 245 ≤ c) (h' : c ≤ 255) (h1a : tailB s (i + 1) 128 191 = false) :
    Calls Tryz.prog 87 #[.string s, .int .i64 i] w fun e w' => e = .returned (.tuple #[.int .i64 (firstRef s i).1, .int .i64 (firstRef s i).2]) ∧ w = w' := by
  have HF : Hid ((firstRef s i).1 = (-1 : Int) ∧ (firstRef s i).2 = 1) := by
    have hcb : byteAt s i = c := by rw [byteAt_get s i hi, hc]
    unfold Hid firstRef
    simp only [hcb]
    first | (have q0 : c < 128 := by omega) | (have q0 : ¬ c < 128 := by omega)
    first | (have q4 : 194 ≤ c := by omega) | (have q4 : ¬ 194 ≤ c := by omega)
    first | (have q5 : c ≤ 223 := by omega) | (have q5 : ¬ c ≤ 223 := by omega)
    first | (have q6 : c = 240 := by omega) | (have q6 : ¬ c = 240 := by omega)
    first | (have q7 : c = 224 := by omega) | (have q7 : ¬ c = 224 := by omega)
    first | (have q8 : c = 244 := by omega) | (have q8 : ¬ c = 244 := by omega)
    first | (have q9 : c = 237 := by omega) | (have q9 : ¬ c = 237 := by omega)
    first | (have qa : 224 ≤ c := by omega) | (have qa : ¬ 224 ≤ c := by omega)
    first | (have qb : c ≤ 239 := by omega) | (have qb : ¬ c ≤ 239 := by omega)
    first | (have qc : 240 ≤ c := by omega) | (have qc : ¬ 240 ≤ c := by omega)
    first | (have qd : c ≤ 244 := by omega) | (have qd : ¬ c ≤ 244 := by omega)
    simp [*]
  have hiz : (i : Int) < (s.size : Int) := by omega
  first | (have z0 : (c : Int) < 128 := by omega) | (have z0 : ¬ (c : Int) < 128 := by omega)
  first | (have z4 : (194 : Int) ≤ c := by omega) | (have z4 : ¬ (194 : Int) ≤ c := by omega)
  first | (have z5 : (c : Int) ≤ 223 := by omega) | (have z5 : ¬ (c : Int) ≤ 223 := by omega)
  first | (have z10 : (224 : Int) ≤ c := by omega) | (have z10 : ¬ (224 : Int) ≤ c := by omega)
  first | (have z11 : (c : Int) ≤ 239 := by omega) | (have z11 : ¬ (c : Int) ≤ 239 := by omega)
  first | (have z12 : (240 : Int) ≤ c := by omega) | (have z12 : ¬ (240 : Int) ≤ c := by omega)
  first | (have z13 : (c : Int) ≤ 244 := by omega) | (have z13 : ¬ (c : Int) ≤ 244 := by omega)
  first | (have y0 : ((c : Int) == 224) = true := by rw [beq_iff_eq]; omega) | (have y0 : ((c : Int) == 224) = false := by rw [beq_eq_false_iff_ne]; omega)
  first | (have y1 : ((c : Int) == 237) = true := by rw [beq_iff_eq]; omega) | (have y1 : ((c : Int) == 237) = false := by rw [beq_eq_false_iff_ne]; omega)
  first | (have y2 : ((c : Int) == 240) = true := by rw [beq_iff_eq]; omega) | (have y2 : ((c : Int) == 240) = false := by rw [beq_eq_false_iff_ne]; omega)
  first | (have y3 : ((c : Int) == 244) = true := by rw [beq_iff_eq]; omega) | (have y3 : ((c : Int) == 244) = false := by rw [beq_eq_false_iff_ne]; omega)
  go_enter Tryz.func87, Tryz.ntmps87
  go_wp2_with (first | (go_at_call 101; refine (tail_any s _ _ _ _ (by omega) hs (by omega) (by omega)).mono ?_; rintro e w' ⟨rfl, rfl⟩) | (go_at_call 102; refine (low_any s _ _ (by omega) (by omega)).mono ?_; rintro e w' ⟨rfl, rfl⟩))
  go_ret2
  exact ⟨ret_two (by rw [HF.out.1] <;> first | rfl | (simp; done) | (simp; omega)) (by rw [HF.out.2] <;> first | rfl | (simp; done)), rfl⟩

set_option maxRecDepth 100000 in
set_option maxHeartbeats 1000000 in
theorem first_K10 (s : ByteArray) (i c : Nat) (w : World) (hi : i < s.size) (hs : s.size ≤ 4294967296) (hc : (s[i]'hi).toNat = c) (h : 245 ≤ c) (h' : c ≤ 255) (h1a : tailB s (i + 1) 128 191 = true) (h2b : tailB s (i + 2) 128 191 = false) :
    Calls Tryz.prog 87 #[.string s, .int .i64 i] w fun e w' => e = .returned (.tuple #[.int .i64 (firstRef s i).1, .int .i64 (firstRef s i).2]) ∧ w = w' := by
  have HF : Hid ((firstRef s i).1 = (-1 : Int) ∧ (firstRef s i).2 = 1) := by
    have hcb : byteAt s i = c := by rw [byteAt_get s i hi, hc]
    unfold Hid firstRef
    simp only [hcb]
    first | (have q0 : c < 128 := by omega) | (have q0 : ¬ c < 128 := by omega)
    first | (have q4 : 194 ≤ c := by omega) | (have q4 : ¬ 194 ≤ c := by omega)
    first | (have q5 : c ≤ 223 := by omega) | (have q5 : ¬ c ≤ 223 := by omega)
    first | (have q6 : c = 240 := by omega) | (have q6 : ¬ c = 240 := by omega)
    first | (have q7 : c = 224 := by omega) | (have q7 : ¬ c = 224 := by omega)
    first | (have q8 : c = 244 := by omega) | (have q8 : ¬ c = 244 := by omega)
    first | (have q9 : c = 237 := by omega) | (have q9 : ¬ c = 237 := by omega)
    first | (have qa : 224 ≤ c := by omega) | (have qa : ¬ 224 ≤ c := by omega)
    first | (have qb : c ≤ 239 := by omega) | (have qb : ¬ c ≤ 239 := by omega)
    first | (have qc : 240 ≤ c := by omega) | (have qc : ¬ 240 ≤ c := by omega)
    first | (have qd : c ≤ 244 := by omega) | (have qd : ¬ c ≤ 244 := by omega)
    simp [*]
  have hiz : (i : Int) < (s.size : Int) := by omega
  have lh1a := tail_lt h1a
  first | (have z0 : (c : Int) < 128 := by omega) | (have z0 : ¬ (c : Int) < 128 := by omega)
  first | (have z4 : (194 : Int) ≤ c := by omega) | (have z4 : ¬ (194 : Int) ≤ c := by omega)
  first | (have z5 : (c : Int) ≤ 223 := by omega) | (have z5 : ¬ (c : Int) ≤ 223 := by omega)
  first | (have z10 : (224 : Int) ≤ c := by omega) | (have z10 : ¬ (224 : Int) ≤ c := by omega)
  first | (have z11 : (c : Int) ≤ 239 := by omega) | (have z11 : ¬ (c : Int) ≤ 239 := by omega)
  first | (have z12 : (240 : Int) ≤ c := by omega) | (have z12 : ¬ (240 : Int) ≤ c := by omega)
  first | (have z13 : (c : Int) ≤ 244 := by omega) | (have z13 : ¬ (c : Int) ≤ 244 := by omega)
  first | (have y0 : ((c : Int) == 224) = true := by rw [beq_iff_eq]; omega) | (have y0 : ((c : Int) == 224) = false := by rw [beq_eq_false_iff_ne]; omega)
  first | (have y1 : ((c : Int) == 237) = true := by rw [beq_iff_eq]; omega) | (have y1 : ((c : Int) == 237) = false := by rw [beq_eq_false_iff_ne]; omega)
  first | (have y2 : ((c : Int) == 240) = true := by rw [beq_iff_eq]; omega) | (have y2 : ((c : Int) == 240) = false := by rw [beq_eq_false_iff_ne]; omega)
  first | (have y3 : ((c : Int) == 244) = true := by rw [beq_iff_eq]; omega) | (have y3 : ((c : Int) == 244) = false := by rw [beq_eq_false_iff_ne]; omega)
  go_enter Tryz.func87, Tryz.ntmps87
  go_wp2_with (first | (go_at_call 101; refine (tail_any s _ _ _ _ (by omega) hs (by omega) (by omega)).mono ?_; rintro e w' ⟨rfl, rfl⟩) | (go_at_call 102; refine (low_any s _ _ (by omega) (by omega)).mono ?_; rintro e w' ⟨rfl, rfl⟩))
  go_ret2
  exact ⟨ret_two (by rw [HF.out.1] <;> first | rfl | (simp; done) | (simp; omega)) (by rw [HF.out.2] <;> first | rfl | (simp; done)), rfl⟩

set_option maxRecDepth 100000 in
set_option maxHeartbeats 1000000 in
theorem first_K11 (s : ByteArray) (i c : Nat) (w : World) (hi : i < s.size) (hs : s.size ≤ 4294967296) (hc : (s[i]'hi).toNat = c) (h : 245 ≤ c) (h' : c ≤ 255) (h1a : tailB s (i + 1) 128 191 = true) (h2b : tailB s (i + 2) 128 191 = true) :
    Calls Tryz.prog 87 #[.string s, .int .i64 i] w fun e w' => e = .returned (.tuple #[.int .i64 (firstRef s i).1, .int .i64 (firstRef s i).2]) ∧ w = w' := by
  have HF : Hid ((firstRef s i).1 = (-1 : Int) ∧ (firstRef s i).2 = 1) := by
    have hcb : byteAt s i = c := by rw [byteAt_get s i hi, hc]
    unfold Hid firstRef
    simp only [hcb]
    first | (have q0 : c < 128 := by omega) | (have q0 : ¬ c < 128 := by omega)
    first | (have q4 : 194 ≤ c := by omega) | (have q4 : ¬ 194 ≤ c := by omega)
    first | (have q5 : c ≤ 223 := by omega) | (have q5 : ¬ c ≤ 223 := by omega)
    first | (have q6 : c = 240 := by omega) | (have q6 : ¬ c = 240 := by omega)
    first | (have q7 : c = 224 := by omega) | (have q7 : ¬ c = 224 := by omega)
    first | (have q8 : c = 244 := by omega) | (have q8 : ¬ c = 244 := by omega)
    first | (have q9 : c = 237 := by omega) | (have q9 : ¬ c = 237 := by omega)
    first | (have qa : 224 ≤ c := by omega) | (have qa : ¬ 224 ≤ c := by omega)
    first | (have qb : c ≤ 239 := by omega) | (have qb : ¬ c ≤ 239 := by omega)
    first | (have qc : 240 ≤ c := by omega) | (have qc : ¬ 240 ≤ c := by omega)
    first | (have qd : c ≤ 244 := by omega) | (have qd : ¬ c ≤ 244 := by omega)
    simp [*]
  have hiz : (i : Int) < (s.size : Int) := by omega
  have lh1a := tail_lt h1a
  have lh2b := tail_lt h2b
  first | (have z0 : (c : Int) < 128 := by omega) | (have z0 : ¬ (c : Int) < 128 := by omega)
  first | (have z4 : (194 : Int) ≤ c := by omega) | (have z4 : ¬ (194 : Int) ≤ c := by omega)
  first | (have z5 : (c : Int) ≤ 223 := by omega) | (have z5 : ¬ (c : Int) ≤ 223 := by omega)
  first | (have z10 : (224 : Int) ≤ c := by omega) | (have z10 : ¬ (224 : Int) ≤ c := by omega)
  first | (have z11 : (c : Int) ≤ 239 := by omega) | (have z11 : ¬ (c : Int) ≤ 239 := by omega)
  first | (have z12 : (240 : Int) ≤ c := by omega) | (have z12 : ¬ (240 : Int) ≤ c := by omega)
  first | (have z13 : (c : Int) ≤ 244 := by omega) | (have z13 : ¬ (c : Int) ≤ 244 := by omega)
  first | (have y0 : ((c : Int) == 224) = true := by rw [beq_iff_eq]; omega) | (have y0 : ((c : Int) == 224) = false := by rw [beq_eq_false_iff_ne]; omega)
  first | (have y1 : ((c : Int) == 237) = true := by rw [beq_iff_eq]; omega) | (have y1 : ((c : Int) == 237) = false := by rw [beq_eq_false_iff_ne]; omega)
  first | (have y2 : ((c : Int) == 240) = true := by rw [beq_iff_eq]; omega) | (have y2 : ((c : Int) == 240) = false := by rw [beq_eq_false_iff_ne]; omega)
  first | (have y3 : ((c : Int) == 244) = true := by rw [beq_iff_eq]; omega) | (have y3 : ((c : Int) == 244) = false := by rw [beq_eq_false_iff_ne]; omega)
  go_enter Tryz.func87, Tryz.ntmps87
  go_wp2_with (first | (go_at_call 101; refine (tail_any s _ _ _ _ (by omega) hs (by omega) (by omega)).mono ?_; rintro e w' ⟨rfl, rfl⟩) | (go_at_call 102; refine (low_any s _ _ (by omega) (by omega)).mono ?_; rintro e w' ⟨rfl, rfl⟩))
  go_ret2
  exact ⟨ret_two (by rw [HF.out.1] <;> first | rfl | (simp; done) | (simp; omega)) (by rw [HF.out.2] <;> first | rfl | (simp; done)), rfl⟩

set_option maxRecDepth 100000 in
set_option maxHeartbeats 1000000 in
theorem first_D0 (s : ByteArray) (i c : Nat) (w : World) (hi : i < s.size) (hs : s.size ≤ 4294967296) (hc : (s[i]'hi).toNat = c) (h : 224 ≤ c) (h' : c ≤ 224) (h1a : tailB s (i + 1) 160 191 = false) :
    Calls Tryz.prog 87 #[.string s, .int .i64 i] w fun e w' => e = .returned (.tuple #[.int .i64 (firstRef s i).1, .int .i64 (firstRef s i).2]) ∧ w = w' := by
  have HF : Hid ((firstRef s i).1 = (-1 : Int) ∧ (firstRef s i).2 = 1) := by
    have hcb : byteAt s i = c := by rw [byteAt_get s i hi, hc]
    unfold Hid firstRef
    simp only [hcb]
    first | (have q0 : c < 128 := by omega) | (have q0 : ¬ c < 128 := by omega)
    first | (have q4 : 194 ≤ c := by omega) | (have q4 : ¬ 194 ≤ c := by omega)
    first | (have q5 : c ≤ 223 := by omega) | (have q5 : ¬ c ≤ 223 := by omega)
    first | (have q6 : c = 240 := by omega) | (have q6 : ¬ c = 240 := by omega)
    first | (have q7 : c = 224 := by omega) | (have q7 : ¬ c = 224 := by omega)
    first | (have q8 : c = 244 := by omega) | (have q8 : ¬ c = 244 := by omega)
    first | (have q9 : c = 237 := by omega) | (have q9 : ¬ c = 237 := by omega)
    first | (have qa : 224 ≤ c := by omega) | (have qa : ¬ 224 ≤ c := by omega)
    first | (have qb : c ≤ 239 := by omega) | (have qb : ¬ c ≤ 239 := by omega)
    first | (have qc : 240 ≤ c := by omega) | (have qc : ¬ 240 ≤ c := by omega)
    first | (have qd : c ≤ 244 := by omega) | (have qd : ¬ c ≤ 244 := by omega)
    simp [*]
  have hiz : (i : Int) < (s.size : Int) := by omega
  first | (have z0 : (c : Int) < 128 := by omega) | (have z0 : ¬ (c : Int) < 128 := by omega)
  first | (have z4 : (194 : Int) ≤ c := by omega) | (have z4 : ¬ (194 : Int) ≤ c := by omega)
  first | (have z5 : (c : Int) ≤ 223 := by omega) | (have z5 : ¬ (c : Int) ≤ 223 := by omega)
  first | (have z10 : (224 : Int) ≤ c := by omega) | (have z10 : ¬ (224 : Int) ≤ c := by omega)
  first | (have z11 : (c : Int) ≤ 239 := by omega) | (have z11 : ¬ (c : Int) ≤ 239 := by omega)
  first | (have z12 : (240 : Int) ≤ c := by omega) | (have z12 : ¬ (240 : Int) ≤ c := by omega)
  first | (have z13 : (c : Int) ≤ 244 := by omega) | (have z13 : ¬ (c : Int) ≤ 244 := by omega)
  first | (have y0 : ((c : Int) == 224) = true := by rw [beq_iff_eq]; omega) | (have y0 : ((c : Int) == 224) = false := by rw [beq_eq_false_iff_ne]; omega)
  first | (have y1 : ((c : Int) == 237) = true := by rw [beq_iff_eq]; omega) | (have y1 : ((c : Int) == 237) = false := by rw [beq_eq_false_iff_ne]; omega)
  first | (have y2 : ((c : Int) == 240) = true := by rw [beq_iff_eq]; omega) | (have y2 : ((c : Int) == 240) = false := by rw [beq_eq_false_iff_ne]; omega)
  first | (have y3 : ((c : Int) == 244) = true := by rw [beq_iff_eq]; omega) | (have y3 : ((c : Int) == 244) = false := by rw [beq_eq_false_iff_ne]; omega)
  go_enter Tryz.func87, Tryz.ntmps87
  go_wp2_with (first | (go_at_call 101; refine (tail_any s _ _ _ _ (by omega) hs (by omega) (by omega)).mono ?_; rintro e w' ⟨rfl, rfl⟩) | (go_at_call 102; refine (low_any s _ _ (by omega) (by omega)).mono ?_; rintro e w' ⟨rfl, rfl⟩))
  go_ret2
  exact ⟨ret_two (by rw [HF.out.1] <;> first | rfl | (simp; done) | (simp; omega)) (by rw [HF.out.2] <;> first | rfl | (simp; done)), rfl⟩

set_option maxRecDepth 100000 in
set_option maxHeartbeats 1000000 in
theorem first_D10 (s : ByteArray) (i c : Nat) (w : World) (hi : i < s.size) (hs : s.size ≤ 4294967296) (hc : (s[i]'hi).toNat = c) (h : 224 ≤ c) (h' : c ≤ 224) (h1a : tailB s (i + 1) 160 191 = true) (h2b : tailB s (i + 2) 128 191 = false) :
    Calls Tryz.prog 87 #[.string s, .int .i64 i] w fun e w' => e = .returned (.tuple #[.int .i64 (firstRef s i).1, .int .i64 (firstRef s i).2]) ∧ w = w' := by
  have HF : Hid ((firstRef s i).1 = (-1 : Int) ∧ (firstRef s i).2 = 1) := by
    have hcb : byteAt s i = c := by rw [byteAt_get s i hi, hc]
    unfold Hid firstRef
    simp only [hcb]
    first | (have q0 : c < 128 := by omega) | (have q0 : ¬ c < 128 := by omega)
    first | (have q4 : 194 ≤ c := by omega) | (have q4 : ¬ 194 ≤ c := by omega)
    first | (have q5 : c ≤ 223 := by omega) | (have q5 : ¬ c ≤ 223 := by omega)
    first | (have q6 : c = 240 := by omega) | (have q6 : ¬ c = 240 := by omega)
    first | (have q7 : c = 224 := by omega) | (have q7 : ¬ c = 224 := by omega)
    first | (have q8 : c = 244 := by omega) | (have q8 : ¬ c = 244 := by omega)
    first | (have q9 : c = 237 := by omega) | (have q9 : ¬ c = 237 := by omega)
    first | (have qa : 224 ≤ c := by omega) | (have qa : ¬ 224 ≤ c := by omega)
    first | (have qb : c ≤ 239 := by omega) | (have qb : ¬ c ≤ 239 := by omega)
    first | (have qc : 240 ≤ c := by omega) | (have qc : ¬ 240 ≤ c := by omega)
    first | (have qd : c ≤ 244 := by omega) | (have qd : ¬ c ≤ 244 := by omega)
    simp [*]
  have hiz : (i : Int) < (s.size : Int) := by omega
  have lh1a := tail_lt h1a
  first | (have z0 : (c : Int) < 128 := by omega) | (have z0 : ¬ (c : Int) < 128 := by omega)
  first | (have z4 : (194 : Int) ≤ c := by omega) | (have z4 : ¬ (194 : Int) ≤ c := by omega)
  first | (have z5 : (c : Int) ≤ 223 := by omega) | (have z5 : ¬ (c : Int) ≤ 223 := by omega)
  first | (have z10 : (224 : Int) ≤ c := by omega) | (have z10 : ¬ (224 : Int) ≤ c := by omega)
  first | (have z11 : (c : Int) ≤ 239 := by omega) | (have z11 : ¬ (c : Int) ≤ 239 := by omega)
  first | (have z12 : (240 : Int) ≤ c := by omega) | (have z12 : ¬ (240 : Int) ≤ c := by omega)
  first | (have z13 : (c : Int) ≤ 244 := by omega) | (have z13 : ¬ (c : Int) ≤ 244 := by omega)
  first | (have y0 : ((c : Int) == 224) = true := by rw [beq_iff_eq]; omega) | (have y0 : ((c : Int) == 224) = false := by rw [beq_eq_false_iff_ne]; omega)
  first | (have y1 : ((c : Int) == 237) = true := by rw [beq_iff_eq]; omega) | (have y1 : ((c : Int) == 237) = false := by rw [beq_eq_false_iff_ne]; omega)
  first | (have y2 : ((c : Int) == 240) = true := by rw [beq_iff_eq]; omega) | (have y2 : ((c : Int) == 240) = false := by rw [beq_eq_false_iff_ne]; omega)
  first | (have y3 : ((c : Int) == 244) = true := by rw [beq_iff_eq]; omega) | (have y3 : ((c : Int) == 244) = false := by rw [beq_eq_false_iff_ne]; omega)
  go_enter Tryz.func87, Tryz.ntmps87
  go_wp2_with (first | (go_at_call 101; refine (tail_any s _ _ _ _ (by omega) hs (by omega) (by omega)).mono ?_; rintro e w' ⟨rfl, rfl⟩) | (go_at_call 102; refine (low_any s _ _ (by omega) (by omega)).mono ?_; rintro e w' ⟨rfl, rfl⟩))
  go_ret2
  exact ⟨ret_two (by rw [HF.out.1] <;> first | rfl | (simp; done) | (simp; omega)) (by rw [HF.out.2] <;> first | rfl | (simp; done)), rfl⟩

set_option maxRecDepth 100000 in
set_option maxHeartbeats 1000000 in
theorem first_D11 (s : ByteArray) (i c : Nat) (w : World) (hi : i < s.size) (hs : s.size ≤ 4294967296) (hc : (s[i]'hi).toNat = c) (h : 224 ≤ c) (h' : c ≤ 224) (h1a : tailB s (i + 1) 160 191 = true) (h2b : tailB s (i + 2) 128 191 = true) :
    Calls Tryz.prog 87 #[.string s, .int .i64 i] w fun e w' => e = .returned (.tuple #[.int .i64 (firstRef s i).1, .int .i64 (firstRef s i).2]) ∧ w = w' := by
  have HF : Hid ((firstRef s i).1 = ((c % 16 * 4096 + byteAt s (i + 1) % 64 * 64 + byteAt s (i + 2) % 64 : Nat) : Int) ∧ (firstRef s i).2 = 3) := by
    have hcb : byteAt s i = c := by rw [byteAt_get s i hi, hc]
    unfold Hid firstRef
    simp only [hcb]
    first | (have q0 : c < 128 := by omega) | (have q0 : ¬ c < 128 := by omega)
    first | (have q4 : 194 ≤ c := by omega) | (have q4 : ¬ 194 ≤ c := by omega)
    first | (have q5 : c ≤ 223 := by omega) | (have q5 : ¬ c ≤ 223 := by omega)
    first | (have q6 : c = 240 := by omega) | (have q6 : ¬ c = 240 := by omega)
    first | (have q7 : c = 224 := by omega) | (have q7 : ¬ c = 224 := by omega)
    first | (have q8 : c = 244 := by omega) | (have q8 : ¬ c = 244 := by omega)
    first | (have q9 : c = 237 := by omega) | (have q9 : ¬ c = 237 := by omega)
    first | (have qa : 224 ≤ c := by omega) | (have qa : ¬ 224 ≤ c := by omega)
    first | (have qb : c ≤ 239 := by omega) | (have qb : ¬ c ≤ 239 := by omega)
    first | (have qc : 240 ≤ c := by omega) | (have qc : ¬ 240 ≤ c := by omega)
    first | (have qd : c ≤ 244 := by omega) | (have qd : ¬ c ≤ 244 := by omega)
    simp [*]
  have hiz : (i : Int) < (s.size : Int) := by omega
  have lh1a := tail_lt h1a
  have lh2b := tail_lt h2b
  first | (have z0 : (c : Int) < 128 := by omega) | (have z0 : ¬ (c : Int) < 128 := by omega)
  first | (have z4 : (194 : Int) ≤ c := by omega) | (have z4 : ¬ (194 : Int) ≤ c := by omega)
  first | (have z5 : (c : Int) ≤ 223 := by omega) | (have z5 : ¬ (c : Int) ≤ 223 := by omega)
  first | (have z10 : (224 : Int) ≤ c := by omega) | (have z10 : ¬ (224 : Int) ≤ c := by omega)
  first | (have z11 : (c : Int) ≤ 239 := by omega) | (have z11 : ¬ (c : Int) ≤ 239 := by omega)
  first | (have z12 : (240 : Int) ≤ c := by omega) | (have z12 : ¬ (240 : Int) ≤ c := by omega)
  first | (have z13 : (c : Int) ≤ 244 := by omega) | (have z13 : ¬ (c : Int) ≤ 244 := by omega)
  first | (have y0 : ((c : Int) == 224) = true := by rw [beq_iff_eq]; omega) | (have y0 : ((c : Int) == 224) = false := by rw [beq_eq_false_iff_ne]; omega)
  first | (have y1 : ((c : Int) == 237) = true := by rw [beq_iff_eq]; omega) | (have y1 : ((c : Int) == 237) = false := by rw [beq_eq_false_iff_ne]; omega)
  first | (have y2 : ((c : Int) == 240) = true := by rw [beq_iff_eq]; omega) | (have y2 : ((c : Int) == 240) = false := by rw [beq_eq_false_iff_ne]; omega)
  first | (have y3 : ((c : Int) == 244) = true := by rw [beq_iff_eq]; omega) | (have y3 : ((c : Int) == 244) = false := by rw [beq_eq_false_iff_ne]; omega)
  go_enter Tryz.func87, Tryz.ntmps87
  go_wp2_with (first | (go_at_call 101; refine (tail_any s _ _ _ _ (by omega) hs (by omega) (by omega)).mono ?_; rintro e w' ⟨rfl, rfl⟩) | (go_at_call 102; refine (low_any s _ _ (by omega) (by omega)).mono ?_; rintro e w' ⟨rfl, rfl⟩))
  go_ret2
  exact ⟨ret_two (by rw [HF.out.1] <;> first | rfl | (simp; done) | (simp; omega)) (by rw [HF.out.2] <;> first | rfl | (simp; done)), rfl⟩

set_option maxRecDepth 100000 in
set_option maxHeartbeats 1000000 in
theorem first_E0 (s : ByteArray) (i c : Nat) (w : World) (hi : i < s.size) (hs : s.size ≤ 4294967296) (hc : (s[i]'hi).toNat = c) (h : 225 ≤ c) (h' : c ≤ 236) (h1a : tailB s (i + 1) 128 191 = false) :
    Calls Tryz.prog 87 #[.string s, .int .i64 i] w fun e w' => e = .returned (.tuple #[.int .i64 (firstRef s i).1, .int .i64 (firstRef s i).2]) ∧ w = w' := by
  have HF : Hid ((firstRef s i).1 = (-1 : Int) ∧ (firstRef s i).2 = 1) := by
    have hcb : byteAt s i = c := by rw [byteAt_get s i hi, hc]
    unfold Hid firstRef
    simp only [hcb]
    first | (have q0 : c < 128 := by omega) | (have q0 : ¬ c < 128 := by omega)
    first | (have q4 : 194 ≤ c := by omega) | (have q4 : ¬ 194 ≤ c := by omega)
    first | (have q5 : c ≤ 223 := by omega) | (have q5 : ¬ c ≤ 223 := by omega)
    first | (have q6 : c = 240 := by omega) | (have q6 : ¬ c = 240 := by omega)
    first | (have q7 : c = 224 := by omega) | (have q7 : ¬ c = 224 := by omega)
    first | (have q8 : c = 244 := by omega) | (have q8 : ¬ c = 244 := by omega)
    first | (have q9 : c = 237 := by omega) | (have q9 : ¬ c = 237 := by omega)
    first | (have qa : 224 ≤ c := by omega) | (have qa : ¬ 224 ≤ c := by omega)
    first | (have qb : c ≤ 239 := by omega) | (have qb : ¬ c ≤ 239 := by omega)
    first | (have qc : 240 ≤ c := by omega) | (have qc : ¬ 240 ≤ c := by omega)
    first | (have qd : c ≤ 244 := by omega) | (have qd : ¬ c ≤ 244 := by omega)
    simp [*]
  have hiz : (i : Int) < (s.size : Int) := by omega
  first | (have z0 : (c : Int) < 128 := by omega) | (have z0 : ¬ (c : Int) < 128 := by omega)
  first | (have z4 : (194 : Int) ≤ c := by omega) | (have z4 : ¬ (194 : Int) ≤ c := by omega)
  first | (have z5 : (c : Int) ≤ 223 := by omega) | (have z5 : ¬ (c : Int) ≤ 223 := by omega)
  first | (have z10 : (224 : Int) ≤ c := by omega) | (have z10 : ¬ (224 : Int) ≤ c := by omega)
  first | (have z11 : (c : Int) ≤ 239 := by omega) | (have z11 : ¬ (c : Int) ≤ 239 := by omega)
  first | (have z12 : (240 : Int) ≤ c := by omega) | (have z12 : ¬ (240 : Int) ≤ c := by omega)
  first | (have z13 : (c : Int) ≤ 244 := by omega) | (have z13 : ¬ (c : Int) ≤ 244 := by omega)
  first | (have y0 : ((c : Int) == 224) = true := by rw [beq_iff_eq]; omega) | (have y0 : ((c : Int) == 224) = false := by rw [beq_eq_false_iff_ne]; omega)
  first | (have y1 : ((c : Int) == 237) = true := by rw [beq_iff_eq]; omega) | (have y1 : ((c : Int) == 237) = false := by rw [beq_eq_false_iff_ne]; omega)
  first | (have y2 : ((c : Int) == 240) = true := by rw [beq_iff_eq]; omega) | (have y2 : ((c : Int) == 240) = false := by rw [beq_eq_false_iff_ne]; omega)
  first | (have y3 : ((c : Int) == 244) = true := by rw [beq_iff_eq]; omega) | (have y3 : ((c : Int) == 244) = false := by rw [beq_eq_false_iff_ne]; omega)
  go_enter Tryz.func87, Tryz.ntmps87
  go_wp2_with (first | (go_at_call 101; refine (tail_any s _ _ _ _ (by omega) hs (by omega) (by omega)).mono ?_; rintro e w' ⟨rfl, rfl⟩) | (go_at_call 102; refine (low_any s _ _ (by omega) (by omega)).mono ?_; rintro e w' ⟨rfl, rfl⟩))
  go_ret2
  exact ⟨ret_two (by rw [HF.out.1] <;> first | rfl | (simp; done) | (simp; omega)) (by rw [HF.out.2] <;> first | rfl | (simp; done)), rfl⟩

set_option maxRecDepth 100000 in
set_option maxHeartbeats 1000000 in
theorem first_E10 (s : ByteArray) (i c : Nat) (w : World) (hi : i < s.size) (hs : s.size ≤ 4294967296) (hc : (s[i]'hi).toNat = c) (h : 225 ≤ c) (h' : c ≤ 236) (h1a : tailB s (i + 1) 128 191 = true) (h2b : tailB s (i + 2) 128 191 = false) :
    Calls Tryz.prog 87 #[.string s, .int .i64 i] w fun e w' => e = .returned (.tuple #[.int .i64 (firstRef s i).1, .int .i64 (firstRef s i).2]) ∧ w = w' := by
  have HF : Hid ((firstRef s i).1 = (-1 : Int) ∧ (firstRef s i).2 = 1) := by
    have hcb : byteAt s i = c := by rw [byteAt_get s i hi, hc]
    unfold Hid firstRef
    simp only [hcb]
    first | (have q0 : c < 128 := by omega) | (have q0 : ¬ c < 128 := by omega)
    first | (have q4 : 194 ≤ c := by omega) | (have q4 : ¬ 194 ≤ c := by omega)
    first | (have q5 : c ≤ 223 := by omega) | (have q5 : ¬ c ≤ 223 := by omega)
    first | (have q6 : c = 240 := by omega) | (have q6 : ¬ c = 240 := by omega)
    first | (have q7 : c = 224 := by omega) | (have q7 : ¬ c = 224 := by omega)
    first | (have q8 : c = 244 := by omega) | (have q8 : ¬ c = 244 := by omega)
    first | (have q9 : c = 237 := by omega) | (have q9 : ¬ c = 237 := by omega)
    first | (have qa : 224 ≤ c := by omega) | (have qa : ¬ 224 ≤ c := by omega)
    first | (have qb : c ≤ 239 := by omega) | (have qb : ¬ c ≤ 239 := by omega)
    first | (have qc : 240 ≤ c := by omega) | (have qc : ¬ 240 ≤ c := by omega)
    first | (have qd : c ≤ 244 := by omega) | (have qd : ¬ c ≤ 244 := by omega)
    simp [*]
  have hiz : (i : Int) < (s.size : Int) := by omega
  have lh1a := tail_lt h1a
  first | (have z0 : (c : Int) < 128 := by omega) | (have z0 : ¬ (c : Int) < 128 := by omega)
  first | (have z4 : (194 : Int) ≤ c := by omega) | (have z4 : ¬ (194 : Int) ≤ c := by omega)
  first | (have z5 : (c : Int) ≤ 223 := by omega) | (have z5 : ¬ (c : Int) ≤ 223 := by omega)
  first | (have z10 : (224 : Int) ≤ c := by omega) | (have z10 : ¬ (224 : Int) ≤ c := by omega)
  first | (have z11 : (c : Int) ≤ 239 := by omega) | (have z11 : ¬ (c : Int) ≤ 239 := by omega)
  first | (have z12 : (240 : Int) ≤ c := by omega) | (have z12 : ¬ (240 : Int) ≤ c := by omega)
  first | (have z13 : (c : Int) ≤ 244 := by omega) | (have z13 : ¬ (c : Int) ≤ 244 := by omega)
  first | (have y0 : ((c : Int) == 224) = true := by rw [beq_iff_eq]; omega) | (have y0 : ((c : Int) == 224) = false := by rw [beq_eq_false_iff_ne]; omega)
  first | (have y1 : ((c : Int) == 237) = true := by rw [beq_iff_eq]; omega) | (have y1 : ((c : Int) == 237) = false := by rw [beq_eq_false_iff_ne]; omega)
  first | (have y2 : ((c : Int) == 240) = true := by rw [beq_iff_eq]; omega) | (have y2 : ((c : Int) == 240) = false := by rw [beq_eq_false_iff_ne]; omega)
  first | (have y3 : ((c : Int) == 244) = true := by rw [beq_iff_eq]; omega) | (have y3 : ((c : Int) == 244) = false := by rw [beq_eq_false_iff_ne]; omega)
  go_enter Tryz.func87, Tryz.ntmps87
  go_wp2_with (first | (go_at_call 101; refine (tail_any s _ _ _ _ (by omega) hs (by omega) (by omega)).mono ?_; rintro e w' ⟨rfl, rfl⟩) | (go_at_call 102; refine (low_any s _ _ (by omega) (by omega)).mono ?_; rintro e w' ⟨rfl, rfl⟩))
  go_ret2
  exact ⟨ret_two (by rw [HF.out.1] <;> first | rfl | (simp; done) | (simp; omega)) (by rw [HF.out.2] <;> first | rfl | (simp; done)), rfl⟩

set_option maxRecDepth 100000 in
set_option maxHeartbeats 1000000 in
theorem first_E11 (s : ByteArray) (i c : Nat) (w : World) (hi : i < s.size) (hs : s.size ≤ 4294967296) (hc : (s[i]'hi).toNat = c) (h : 225 ≤ c) (h' : c ≤ 236) (h1a : tailB s (i + 1) 128 191 = true) (h2b : tailB s (i + 2) 128 191 = true) :
    Calls Tryz.prog 87 #[.string s, .int .i64 i] w fun e w' => e = .returned (.tuple #[.int .i64 (firstRef s i).1, .int .i64 (firstRef s i).2]) ∧ w = w' := by
  have HF : Hid ((firstRef s i).1 = ((c % 16 * 4096 + byteAt s (i + 1) % 64 * 64 + byteAt s (i + 2) % 64 : Nat) : Int) ∧ (firstRef s i).2 = 3) := by
    have hcb : byteAt s i = c := by rw [byteAt_get s i hi, hc]
    unfold Hid firstRef
    simp only [hcb]
    first | (have q0 : c < 128 := by omega) | (have q0 : ¬ c < 128 := by omega)
    first | (have q4 : 194 ≤ c := by omega) | (have q4 : ¬ 194 ≤ c := by omega)
    first | (have q5 : c ≤ 223 := by omega) | (have q5 : ¬ c ≤ 223 := by omega)
    first | (have q6 : c = 240 := by omega) | (have q6 : ¬ c = 240 := by omega)
    first | (have q7 : c = 224 := by omega) | (have q7 : ¬ c = 224 := by omega)
    first | (have q8 : c = 244 := by omega) | (have q8 : ¬ c = 244 := by omega)
    first | (have q9 : c = 237 := by omega) | (have q9 : ¬ c = 237 := by omega)
    first | (have qa : 224 ≤ c := by omega) | (have qa : ¬ 224 ≤ c := by omega)
    first | (have qb : c ≤ 239 := by omega) | (have qb : ¬ c ≤ 239 := by omega)
    first | (have qc : 240 ≤ c := by omega) | (have qc : ¬ 240 ≤ c := by omega)
    first | (have qd : c ≤ 244 := by omega) | (have qd : ¬ c ≤ 244 := by omega)
    simp [*]
  have hiz : (i : Int) < (s.size : Int) := by omega
  have lh1a := tail_lt h1a
  have lh2b := tail_lt h2b
  first | (have z0 : (c : Int) < 128 := by omega) | (have z0 : ¬ (c : Int) < 128 := by omega)
  first | (have z4 : (194 : Int) ≤ c := by omega) | (have z4 : ¬ (194 : Int) ≤ c := by omega)
  first | (have z5 : (c : Int) ≤ 223 := by omega) | (have z5 : ¬ (c : Int) ≤ 223 := by omega)
  first | (have z10 : (224 : Int) ≤ c := by omega) | (have z10 : ¬ (224 : Int) ≤ c := by omega)
  first | (have z11 : (c : Int) ≤ 239 := by omega) | (have z11 : ¬ (c : Int) ≤ 239 := by omega)
  first | (have z12 : (240 : Int) ≤ c := by omega) | (have z12 : ¬ (240 : Int) ≤ c := by omega)
  first | (have z13 : (c : Int) ≤ 244 := by omega) | (have z13 : ¬ (c : Int) ≤ 244 := by omega)
  first | (have y0 : ((c : Int) == 224) = true := by rw [beq_iff_eq]; omega) | (have y0 : ((c : Int) == 224) = false := by rw [beq_eq_false_iff_ne]; omega)
  first | (have y1 : ((c : Int) == 237) = true := by rw [beq_iff_eq]; omega) | (have y1 : ((c : Int) == 237) = false := by rw [beq_eq_false_iff_ne]; omega)
  first | (have y2 : ((c : Int) == 240) = true := by rw [beq_iff_eq]; omega) | (have y2 : ((c : Int) == 240) = false := by rw [beq_eq_false_iff_ne]; omega)
  first | (have y3 : ((c : Int) == 244) = true := by rw [beq_iff_eq]; omega) | (have y3 : ((c : Int) == 244) = false := by rw [beq_eq_false_iff_ne]; omega)
  go_enter Tryz.func87, Tryz.ntmps87
  go_wp2_with (first | (go_at_call 101; refine (tail_any s _ _ _ _ (by omega) hs (by omega) (by omega)).mono ?_; rintro e w' ⟨rfl, rfl⟩) | (go_at_call 102; refine (low_any s _ _ (by omega) (by omega)).mono ?_; rintro e w' ⟨rfl, rfl⟩))
  go_ret2
  exact ⟨ret_two (by rw [HF.out.1] <;> first | rfl | (simp; done) | (simp; omega)) (by rw [HF.out.2] <;> first | rfl | (simp; done)), rfl⟩

set_option maxRecDepth 100000 in
set_option maxHeartbeats 1000000 in
theorem first_F0 (s : ByteArray) (i c : Nat) (w : World) (hi : i < s.size) (hs : s.size ≤ 4294967296) (hc : (s[i]'hi).toNat = c) (h : 237 ≤ c) (h' : c ≤ 237) (h1a : tailB s (i + 1) 128 159 = false) :
    Calls Tryz.prog 87 #[.string s, .int .i64 i] w fun e w' => e = .returned (.tuple #[.int .i64 (firstRef s i).1, .int .i64 (firstRef s i).2]) ∧ w = w' := by
  have HF : Hid ((firstRef s i).1 = (-1 : Int) ∧ (firstRef s i).2 = 1) := by
    have hcb : byteAt s i = c := by rw [byteAt_get s i hi, hc]
    unfold Hid firstRef
    simp only [hcb]
    first | (have q0 : c < 128 := by omega) | (have q0 : ¬ c < 128 := by omega)
    first | (have q4 : 194 ≤ c := by omega) | (have q4 : ¬ 194 ≤ c := by omega)
    first | (have q5 : c ≤ 223 := by omega) | (have q5 : ¬ c ≤ 223 := by omega)
    first | (have q6 : c = 240 := by omega) | (have q6 : ¬ c = 240 := by omega)
    first | (have q7 : c = 224 := by omega) | (have q7 : ¬ c = 224 := by omega)
    first | (have q8 : c = 244 := by omega) | (have q8 : ¬ c = 244 := by omega)
    first | (have q9 : c = 237 := by omega) | (have q9 : ¬ c = 237 := by omega)
    first | (have qa : 224 ≤ c := by omega) | (have qa : ¬ 224 ≤ c := by omega)
    first | (have qb : c ≤ 239 := by omega) | (have qb : ¬ c ≤ 239 := by omega)
    first | (have qc : 240 ≤ c := by omega) | (have qc : ¬ 240 ≤ c := by omega)
    first | (have qd : c ≤ 244 := by omega) | (have qd : ¬ c ≤ 244 := by omega)
    simp [*]
  have hiz : (i : Int) < (s.size : Int) := by omega
  first | (have z0 : (c : Int) < 128 := by omega) | (have z0 : ¬ (c : Int) < 128 := by omega)
  first | (have z4 : (194 : Int) ≤ c := by omega) | (have z4 : ¬ (194 : Int) ≤ c := by omega)
  first | (have z5 : (c : Int) ≤ 223 := by omega) | (have z5 : ¬ (c : Int) ≤ 223 := by omega)
  first | (have z10 : (224 : Int) ≤ c := by omega) | (have z10 : ¬ (224 : Int) ≤ c := by omega)
  first | (have z11 : (c : Int) ≤ 239 := by omega) | (have z11 : ¬ (c : Int) ≤ 239 := by omega)
  first | (have z12 : (240 : Int) ≤ c := by omega) | (have z12 : ¬ (240 : Int) ≤ c := by omega)
  first | (have z13 : (c : Int) ≤ 244 := by omega) | (have z13 : ¬ (c : Int) ≤ 244 := by omega)
  first | (have y0 : ((c : Int) == 224) = true := by rw [beq_iff_eq]; omega) | (have y0 : ((c : Int) == 224) = false := by rw [beq_eq_false_iff_ne]; omega)
  first | (have y1 : ((c : Int) == 237) = true := by rw [beq_iff_eq]; omega) | (have y1 : ((c : Int) == 237) = false := by rw [beq_eq_false_iff_ne]; omega)
  first | (have y2 : ((c : Int) == 240) = true := by rw [beq_iff_eq]; omega) | (have y2 : ((c : Int) == 240) = false := by rw [beq_eq_false_iff_ne]; omega)
  first | (have y3 : ((c : Int) == 244) = true := by rw [beq_iff_eq]; omega) | (have y3 : ((c : Int) == 244) = false := by rw [beq_eq_false_iff_ne]; omega)
  go_enter Tryz.func87, Tryz.ntmps87
  go_wp2_with (first | (go_at_call 101; refine (tail_any s _ _ _ _ (by omega) hs (by omega) (by omega)).mono ?_; rintro e w' ⟨rfl, rfl⟩) | (go_at_call 102; refine (low_any s _ _ (by omega) (by omega)).mono ?_; rintro e w' ⟨rfl, rfl⟩))
  go_ret2
  exact ⟨ret_two (by rw [HF.out.1] <;> first | rfl | (simp; done) | (simp; omega)) (by rw [HF.out.2] <;> first | rfl | (simp; done)), rfl⟩

set_option maxRecDepth 100000 in
set_option maxHeartbeats 1000000 in
theorem first_F10 (s : ByteArray) (i c : Nat) (w : World) (hi : i < s.size) (hs : s.size ≤ 4294967296) (hc : (s[i]'hi).toNat = c) (h : 237 ≤ c) (h' : c ≤ 237) (h1a : tailB s (i + 1) 128 159 = true) (h2b : tailB s (i + 2) 128 191 = false) :
    Calls Tryz.prog 87 #[.string s, .int .i64 i] w fun e w' => e = .returned (.tuple #[.int .i64 (firstRef s i).1, .int .i64 (firstRef s i).2]) ∧ w = w' := by
  have HF : Hid ((firstRef s i).1 = (-1 : Int) ∧ (firstRef s i).2 = 1) := by
    have hcb : byteAt s i = c := by rw [byteAt_get s i hi, hc]
    unfold Hid firstRef
    simp only [hcb]
    first | (have q0 : c < 128 := by omega) | (have q0 : ¬ c < 128 := by omega)
    first | (have q4 : 194 ≤ c := by omega) | (have q4 : ¬ 194 ≤ c := by omega)
    first | (have q5 : c ≤ 223 := by omega) | (have q5 : ¬ c ≤ 223 := by omega)
    first | (have q6 : c = 240 := by omega) | (have q6 : ¬ c = 240 := by omega)
    first | (have q7 : c = 224 := by omega) | (have q7 : ¬ c = 224 := by omega)
    first | (have q8 : c = 244 := by omega) | (have q8 : ¬ c = 244 := by omega)
    first | (have q9 : c = 237 := by omega) | (have q9 : ¬ c = 237 := by omega)
    first | (have qa : 224 ≤ c := by omega) | (have qa : ¬ 224 ≤ c := by omega)
    first | (have qb : c ≤ 239 := by omega) | (have qb : ¬ c ≤ 239 := by omega)
    first | (have qc : 240 ≤ c := by omega) | (have qc : ¬ 240 ≤ c := by omega)
    first | (have qd : c ≤ 244 := by omega) | (have qd : ¬ c ≤ 244 := by omega)
    simp [*]
  have hiz : (i : Int) < (s.size : Int) := by omega
  have lh1a := tail_lt h1a
  first | (have z0 : (c : Int) < 128 := by omega) | (have z0 : ¬ (c : Int) < 128 := by omega)
  first | (have z4 : (194 : Int) ≤ c := by omega) | (have z4 : ¬ (194 : Int) ≤ c := by omega)
  first | (have z5 : (c : Int) ≤ 223 := by omega) | (have z5 : ¬ (c : Int) ≤ 223 := by omega)
  first | (have z10 : (224 : Int) ≤ c := by omega) | (have z10 : ¬ (224 : Int) ≤ c := by omega)
  first | (have z11 : (c : Int) ≤ 239 := by omega) | (have z11 : ¬ (c : Int) ≤ 239 := by omega)
  first | (have z12 : (240 : Int) ≤ c := by omega) | (have z12 : ¬ (240 : Int) ≤ c := by omega)
  first | (have z13 : (c : Int) ≤ 244 := by omega) | (have z13 : ¬ (c : Int) ≤ 244 := by omega)
  first | (have y0 : ((c : Int) == 224) = true := by rw [beq_iff_eq]; omega) | (have y0 : ((c : Int) == 224) = false := by rw [beq_eq_false_iff_ne]; omega)
  first | (have y1 : ((c : Int) == 237) = true := by rw [beq_iff_eq]; omega) | (have y1 : ((c : Int) == 237) = false := by rw [beq_eq_false_iff_ne]; omega)
  first | (have y2 : ((c : Int) == 240) = true := by rw [beq_iff_eq]; omega) | (have y2 : ((c : Int) == 240) = false := by rw [beq_eq_false_iff_ne]; omega)
  first | (have y3 : ((c : Int) == 244) = true := by rw [beq_iff_eq]; omega) | (have y3 : ((c : Int) == 244) = false := by rw [beq_eq_false_iff_ne]; omega)
  go_enter Tryz.func87, Tryz.ntmps87
  go_wp2_with (first | (go_at_call 101; refine (tail_any s _ _ _ _ (by omega) hs (by omega) (by omega)).mono ?_; rintro e w' ⟨rfl, rfl⟩) | (go_at_call 102; refine (low_any s _ _ (by omega) (by omega)).mono ?_; rintro e w' ⟨rfl, rfl⟩))
  go_ret2
  exact ⟨ret_two (by rw [HF.out.1] <;> first | rfl | (simp; done) | (simp; omega)) (by rw [HF.out.2] <;> first | rfl | (simp; done)), rfl⟩

set_option maxRecDepth 100000 in
set_option maxHeartbeats 1000000 in
theorem first_F11 (s : ByteArray) (i c : Nat) (w : World) (hi : i < s.size) (hs : s.size ≤ 4294967296) (hc : (s[i]'hi).toNat = c) (h : 237 ≤ c) (h' : c ≤ 237) (h1a : tailB s (i + 1) 128 159 = true) (h2b : tailB s (i + 2) 128 191 = true) :
    Calls Tryz.prog 87 #[.string s, .int .i64 i] w fun e w' => e = .returned (.tuple #[.int .i64 (firstRef s i).1, .int .i64 (firstRef s i).2]) ∧ w = w' := by
  have HF : Hid ((firstRef s i).1 = ((c % 16 * 4096 + byteAt s (i + 1) % 64 * 64 + byteAt s (i + 2) % 64 : Nat) : Int) ∧ (firstRef s i).2 = 3) := by
    have hcb : byteAt s i = c := by rw [byteAt_get s i hi, hc]
    unfold Hid firstRef
    simp only [hcb]
    first | (have q0 : c < 128 := by omega) | (have q0 : ¬ c < 128 := by omega)
    first | (have q4 : 194 ≤ c := by omega) | (have q4 : ¬ 194 ≤ c := by omega)
    first | (have q5 : c ≤ 223 := by omega) | (have q5 : ¬ c ≤ 223 := by omega)
    first | (have q6 : c = 240 := by omega) | (have q6 : ¬ c = 240 := by omega)
    first | (have q7 : c = 224 := by omega) | (have q7 : ¬ c = 224 := by omega)
    first | (have q8 : c = 244 := by omega) | (have q8 : ¬ c = 244 := by omega)
    first | (have q9 : c = 237 := by omega) | (have q9 : ¬ c = 237 := by omega)
    first | (have qa : 224 ≤ c := by omega) | (have qa : ¬ 224 ≤ c := by omega)
    first | (have qb : c ≤ 239 := by omega) | (have qb : ¬ c ≤ 239 := by omega)
    first | (have qc : 240 ≤ c := by omega) | (have qc : ¬ 240 ≤ c := by omega)
    first | (have qd : c ≤ 244 := by omega) | (have qd : ¬ c ≤ 244 := by omega)
    simp [*]
  have hiz : (i : Int) < (s.size : Int) := by omega
  have lh1a := tail_lt h1a
  have lh2b := tail_lt h2b
  first | (have z0 : (c : Int) < 128 := by omega) | (have z0 : ¬ (c : Int) < 128 := by omega)
  first | (have z4 : (194 : Int) ≤ c := by omega) | (have z4 : ¬ (194 : Int) ≤ c := by omega)
  first | (have z5 : (c : Int) ≤ 223 := by omega) | (have z5 : ¬ (c : Int) ≤ 223 := by omega)
  first | (have z10 : (224 : Int) ≤ c := by omega) | (have z10 : ¬ (224 : Int) ≤ c := by omega)
  first | (have z11 : (c : Int) ≤ 239 := by omega) | (have z11 : ¬ (c : Int) ≤ 239 := by omega)
  first | (have z12 : (240 : Int) ≤ c := by omega) | (have z12 : ¬ (240 : Int) ≤ c := by omega)
  first | (have z13 : (c : Int) ≤ 244 := by omega) | (have z13 : ¬ (c : Int) ≤ 244 := by omega)
  first | (have y0 : ((c : Int) == 224) = true := by rw [beq_iff_eq]; omega) | (have y0 : ((c : Int) == 224) = false := by rw [beq_eq_false_iff_ne]; omega)
  first | (have y1 : ((c : Int) == 237) = true := by rw [beq_iff_eq]; omega) | (have y1 : ((c : Int) == 237) = false := by rw [beq_eq_false_iff_ne]; omega)
  first | (have y2 : ((c : Int) == 240) = true := by rw [beq_iff_eq]; omega) | (have y2 : ((c : Int) == 240) = false := by rw [beq_eq_false_iff_ne]; omega)
  first | (have y3 : ((c : Int) == 244) = true := by rw [beq_iff_eq]; omega) | (have y3 : ((c : Int) == 244) = false := by rw [beq_eq_false_iff_ne]; omega)
  go_enter Tryz.func87, Tryz.ntmps87
  go_wp2_with (first | (go_at_call 101; refine (tail_any s _ _ _ _ (by omega) hs (by omega) (by omega)).mono ?_; rintro e w' ⟨rfl, rfl⟩) | (go_at_call 102; refine (low_any s _ _ (by omega) (by omega)).mono ?_; rintro e w' ⟨rfl, rfl⟩))
  go_ret2
  exact ⟨ret_two (by rw [HF.out.1] <;> first | rfl | (simp; done) | (simp; omega)) (by rw [HF.out.2] <;> first | rfl | (simp; done)), rfl⟩

set_option maxRecDepth 100000 in
set_option maxHeartbeats 1000000 in
theorem first_G0 (s : ByteArray) (i c : Nat) (w : World) (hi : i < s.size) (hs : s.size ≤ 4294967296) (hc : (s[i]'hi).toNat = c) (h : 238 ≤ c) (h' : c ≤ 239) (h1a : tailB s (i + 1) 128 191 = false) :
    Calls Tryz.prog 87 #[.string s, .int .i64 i] w fun e w' => e = .returned (.tuple #[.int .i64 (firstRef s i).1, .int .i64 (firstRef s i).2]) ∧ w = w' := by
  have HF : Hid ((firstRef s i).1 = (-1 : Int) ∧ (firstRef s i).2 = 1) := by
    have hcb : byteAt s i = c := by rw [byteAt_get s i hi, hc]
    unfold Hid firstRef
    simp only [hcb]
    first | (have q0 : c < 128 := by omega) | (have q0 : ¬ c < 128 := by omega)
    first | (have q4 : 194 ≤ c := by omega) | (have q4 : ¬ 194 ≤ c := by omega)
    first | (have q5 : c ≤ 223 := by omega) | (have q5 : ¬ c ≤ 223 := by omega)
    first | (have q6 : c = 240 := by omega) | (have q6 : ¬ c = 240 := by omega)
    first | (have q7 : c = 224 := by omega) | (have q7 : ¬ c = 224 := by omega)
    first | (have q8 : c = 244 := by omega) | (have q8 : ¬ c = 244 := by omega)
    first | (have q9 : c = 237 := by omega) | (have q9 : ¬ c = 237 := by omega)
    first | (have qa : 224 ≤ c := by omega) | (have qa : ¬ 224 ≤ c := by omega)
    first | (have qb : c ≤ 239 := by omega) | (have qb : ¬ c ≤ 239 := by omega)
    first | (have qc : 240 ≤ c := by omega) | (have qc : ¬ 240 ≤ c := by omega)
    first | (have qd : c ≤ 244 := by omega) | (have qd : ¬ c ≤ 244 := by omega)
    simp [*]
  have hiz : (i : Int) < (s.size : Int) := by omega
  first | (have z0 : (c : Int) < 128 := by omega) | (have z0 : ¬ (c : Int) < 128 := by omega)
  first | (have z4 : (194 : Int) ≤ c := by omega) | (have z4 : ¬ (194 : Int) ≤ c := by omega)
  first | (have z5 : (c : Int) ≤ 223 := by omega) | (have z5 : ¬ (c : Int) ≤ 223 := by omega)
  first | (have z10 : (224 : Int) ≤ c := by omega) | (have z10 : ¬ (224 : Int) ≤ c := by omega)
  first | (have z11 : (c : Int) ≤ 239 := by omega) | (have z11 : ¬ (c : Int) ≤ 239 := by omega)
  first | (have z12 : (240 : Int) ≤ c := by omega) | (have z12 : ¬ (240 : Int) ≤ c := by omega)
  first | (have z13 : (c : Int) ≤ 244 := by omega) | (have z13 : ¬ (c : Int) ≤ 244 := by omega)
  first | (have y0 : ((c : Int) == 224) = true := by rw [beq_iff_eq]; omega) | (have y0 : ((c : Int) == 224) = false := by rw [beq_eq_false_iff_ne]; omega)
  first | (have y1 : ((c : Int) == 237) = true := by rw [beq_iff_eq]; omega) | (have y1 : ((c : Int) == 237) = false := by rw [beq_eq_false_iff_ne]; omega)
  first | (have y2 : ((c : Int) == 240) = true := by rw [beq_iff_eq]; omega) | (have y2 : ((c : Int) == 240) = false := by rw [beq_eq_false_iff_ne]; omega)
  first | (have y3 : ((c : Int) == 244) = true := by rw [beq_iff_eq]; omega) | (have y3 : ((c : Int) == 244) = false := by rw [beq_eq_false_iff_ne]; omega)
  go_enter Tryz.func87, Tryz.ntmps87
  go_wp2_with (first | (go_at_call 101; refine (tail_any s _ _ _ _ (by omega) hs (by omega) (by omega)).mono ?_; rintro e w' ⟨rfl, rfl⟩) | (go_at_call 102; refine (low_any s _ _ (by omega) (by omega)).mono ?_; rintro e w' ⟨rfl, rfl⟩))
  go_ret2
  exact ⟨ret_two (by rw [HF.out.1] <;> first | rfl | (simp; done) | (simp; omega)) (by rw [HF.out.2] <;> first | rfl | (simp; done)), rfl⟩

set_option maxRecDepth 100000 in
set_option maxHeartbeats 1000000 in
theorem first_G10 (s : ByteArray) (i c : Nat) (w : World) (hi : i < s.size) (hs : s.size ≤ 4294967296) (hc : (s[i]'hi).toNat = c) (h : 238 ≤ c) (h' : c ≤ 239) (h1a : tailB s (i + 1) 128 191 = true) (h2b : tailB s (i + 2) 128 191 = false) :
    Calls Tryz.prog 87 #[.string s, .int .i64 i] w fun e w' => e = .returned (.tuple #[.int .i64 (firstRef s i).1, .int .i64 (firstRef s i).2]) ∧ w = w' := by
  have HF : Hid ((firstRef s i).1 = (-1 : Int) ∧ (firstRef s i).2 = 1) := by
    have hcb : byteAt s i = c := by rw [byteAt_get s i hi, hc]
    unfold Hid firstRef
    simp only [hcb]
    first | (have q0 : c < 128 := by omega) | (have q0 : ¬ c < 128 := by omega)
    first | (have q4 : 194 ≤ c := by omega) | (have q4 : ¬ 194 ≤ c := by omega)
    first | (have q5 : c ≤ 223 := by omega) | (have q5 : ¬ c ≤ 223 := by omega)
    first | (have q6 : c = 240 := by omega) | (have q6 : ¬ c = 240 := by omega)
    first | (have q7 : c = 224 := by omega) | (have q7 : ¬ c = 224 := by omega)
    first | (have q8 : c = 244 := by omega) | (have q8 : ¬ c = 244 := by omega)
    first | (have q9 : c = 237 := by omega) | (have q9 : ¬ c = 237 := by omega)
    first | (have qa : 224 ≤ c := by omega) | (have qa : ¬ 224 ≤ c := by omega)
    first | (have qb : c ≤ 239 := by omega) | (have qb : ¬ c ≤ 239 := by omega)
    first | (have qc : 240 ≤ c := by omega) | (have qc : ¬ 240 ≤ c := by omega)
    first | (have qd : c ≤ 244 := by omega) | (have qd : ¬ c ≤ 244 := by omega)
    simp [*]
  have hiz : (i : Int) < (s.size : Int) := by omega
  have lh1a := tail_lt h1a
  first | (have z0 : (c : Int) < 128 := by omega) | (have z0 : ¬ (c : Int) < 128 := by omega)
  first | (have z4 : (194 : Int) ≤ c := by omega) | (have z4 : ¬ (194 : Int) ≤ c := by omega)
  first | (have z5 : (c : Int) ≤ 223 := by omega) | (have z5 : ¬ (c : Int) ≤ 223 := by omega)
  first | (have z10 : (224 : Int) ≤ c := by omega) | (have z10 : ¬ (224 : Int) ≤ c := by omega)
  first | (have z11 : (c : Int) ≤ 239 := by omega) | (have z11 : ¬ (c : Int) ≤ 239 := by omega)
  first | (have z12 : (240 : Int) ≤ c := by omega) | (have z12 : ¬ (240 : Int) ≤ c := by omega)
  first | (have z13 : (c : Int) ≤ 244 := by omega) | (have z13 : ¬ (c : Int) ≤ 244 := by omega)
  first | (have y0 : ((c : Int) == 224) = true := by rw [beq_iff_eq]; omega) | (have y0 : ((c : Int) == 224) = false := by rw [beq_eq_false_iff_ne]; omega)
  first | (have y1 : ((c : Int) == 237) = true := by rw [beq_iff_eq]; omega) | (have y1 : ((c : Int) == 237) = false := by rw [beq_eq_false_iff_ne]; omega)
  first | (have y2 : ((c : Int) == 240) = true := by rw [beq_iff_eq]; omega) | (have y2 : ((c : Int) == 240) = false := by rw [beq_eq_false_iff_ne]; omega)
  first | (have y3 : ((c : Int) == 244) = true := by rw [beq_iff_eq]; omega) | (have y3 : ((c : Int) == 244) = false := by rw [beq_eq_false_iff_ne]; omega)
  go_enter Tryz.func87, Tryz.ntmps87
  go_wp2_with (first | (go_at_call 101; refine (tail_any s _ _ _ _ (by omega) hs (by omega) (by omega)).mono ?_; rintro e w' ⟨rfl, rfl⟩) | (go_at_call 102; refine (low_any s _ _ (by omega) (by omega)).mono ?_; rintro e w' ⟨rfl, rfl⟩))
  go_ret2
  exact ⟨ret_two (by rw [HF.out.1] <;> first | rfl | (simp; done) | (simp; omega)) (by rw [HF.out.2] <;> first | rfl | (simp; done)), rfl⟩

set_option maxRecDepth 100000 in
set_option maxHeartbeats 1000000 in
theorem first_G11 (s : ByteArray) (i c : Nat) (w : World) (hi : i < s.size) (hs : s.size ≤ 4294967296) (hc : (s[i]'hi).toNat = c) (h : 238 ≤ c) (h' : c ≤ 239) (h1a : tailB s (i + 1) 128 191 = true) (h2b : tailB s (i + 2) 128 191 = true) :
    Calls Tryz.prog 87 #[.string s, .int .i64 i] w fun e w' => e = .returned (.tuple #[.int .i64 (firstRef s i).1, .int .i64 (firstRef s i).2]) ∧ w = w' := by
  have HF : Hid ((firstRef s i).1 = ((c % 16 * 4096 + byteAt s (i + 1) % 64 * 64 + byteAt s (i + 2) % 64 : Nat) : Int) ∧ (firstRef s i).2 = 3) := by
    have hcb : byteAt s i = c := by rw [byteAt_get s i hi, hc]
    unfold Hid firstRef
    simp only [hcb]
    first | (have q0 : c < 128 := by omega) | (have q0 : ¬ c < 128 := by omega)
    first | (have q4 : 194 ≤ c := by omega) | (have q4 : ¬ 194 ≤ c := by omega)
    first | (have q5 : c ≤ 223 := by omega) | (have q5 : ¬ c ≤ 223 := by omega)
    first | (have q6 : c = 240 := by omega) | (have q6 : ¬ c = 240 := by omega)
    first | (have q7 : c = 224 := by omega) | (have q7 : ¬ c = 224 := by omega)
    first | (have q8 : c = 244 := by omega) | (have q8 : ¬ c = 244 := by omega)
    first | (have q9 : c = 237 := by omega) | (have q9 : ¬ c = 237 := by omega)
    first | (have qa : 224 ≤ c := by omega) | (have qa : ¬ 224 ≤ c := by omega)
    first | (have qb : c ≤ 239 := by omega) | (have qb : ¬ c ≤ 239 := by omega)
    first | (have qc : 240 ≤ c := by omega) | (have qc : ¬ 240 ≤ c := by omega)
    first | (have qd : c ≤ 244 := by omega) | (have qd : ¬ c ≤ 244 := by omega)
    simp [*]
  have hiz : (i : Int) < (s.size : Int) := by omega
  have lh1a := tail_lt h1a
  have lh2b := tail_lt h2b
  first | (have z0 : (c : Int) < 128 := by omega) | (have z0 : ¬ (c : Int) < 128 := by omega)
  first | (have z4 : (194 : Int) ≤ c := by omega) | (have z4 : ¬ (194 : Int) ≤ c := by omega)
  first | (have z5 : (c : Int) ≤ 223 := by omega) | (have z5 : ¬ (c : Int) ≤ 223 := by omega)
  first | (have z10 : (224 : Int) ≤ c := by omega) | (have z10 : ¬ (224 : Int) ≤ c := by omega)
  first | (have z11 : (c : Int) ≤ 239 := by omega) | (have z11 : ¬ (c : Int) ≤ 239 := by omega)
  first | (have z12 : (240 : Int) ≤ c := by omega) | (have z12 : ¬ (240 : Int) ≤ c := by omega)
  first | (have z13 : (c : Int) ≤ 244 := by omega) | (have z13 : ¬ (c : Int) ≤ 244 := by omega)
  first | (have y0 : ((c : Int) == 224) = true := by rw [beq_iff_eq]; omega) | (have y0 : ((c : Int) == 224) = false := by rw [beq_eq_false_iff_ne]; omega)
  first | (have y1 : ((c : Int) == 237) = true := by rw [beq_iff_eq]; omega) | (have y1 : ((c : Int) == 237) = false := by rw [beq_eq_false_iff_ne]; omega)
  first | (have y2 : ((c : Int) == 240) = true := by rw [beq_iff_eq]; omega) | (have y2 : ((c : Int) == 240) = false := by rw [beq_eq_false_iff_ne]; omega)
  first | (have y3 : ((c : Int) == 244) = true := by rw [beq_iff_eq]; omega) | (have y3 : ((c : Int) == 244) = false := by rw [beq_eq_false_iff_ne]; omega)
  go_enter Tryz.func87, Tryz.ntmps87
  go_wp2_with (first | (go_at_call 101; refine (tail_any s _ _ _ _ (by omega) hs (by omega) (by omega)).mono ?_; rintro e w' ⟨rfl, rfl⟩) | (go_at_call 102; refine (low_any s _ _ (by omega) (by omega)).mono ?_; rintro e w' ⟨rfl, rfl⟩))
  go_ret2
  exact ⟨ret_two (by rw [HF.out.1] <;> first | rfl | (simp; done) | (simp; omega)) (by rw [HF.out.2] <;> first | rfl | (simp; done)), rfl⟩

set_option maxRecDepth 100000 in
set_option maxHeartbeats 1000000 in
theorem first_H0 (s : ByteArray) (i c : Nat) (w : World) (hi : i < s.size) (hs : s.size ≤ 4294967296) (hc : (s[i]'hi).toNat = c) (h : 240 ≤ c) (h' : c ≤ 240) (h1a : tailB s (i + 1) 144 191 = false) :
    Calls Tryz.prog 87 #[.string s, .int .i64 i] w fun e w' => e = .returned (.tuple #[.int .i64 (firstRef s i).1, .int .i64 (firstRef s i).2]) ∧ w = w' := by
  have HF : Hid ((firstRef s i).1 = (-1 : Int) ∧ (firstRef s i).2 = 1) := by
    have hcb : byteAt s i = c := by rw [byteAt_get s i hi, hc]
    unfold Hid firstRef
    simp only [hcb]
    first | (have q0 : c < 128 := by omega) | (have q0 : ¬ c < 128 := by omega)
    first | (have q4 : 194 ≤ c := by omega) | (have q4 : ¬ 194 ≤ c := by omega)
    first | (have q5 : c ≤ 223 := by omega) | (have q5 : ¬ c ≤ 223 := by omega)
    first | (have q6 : c = 240 := by omega) | (have q6 : ¬ c = 240 := by omega)
    first | (have q7 : c = 224 := by omega) | (have q7 : ¬ c = 224 := by omega)
    first | (have q8 : c = 244 := by omega) | (have q8 : ¬ c = 244 := by omega)
    first | (have q9 : c = 237 := by omega) | (have q9 : ¬ c = 237 := by omega)
    first | (have qa : 224 ≤ c := by omega) | (have qa : ¬ 224 ≤ c := by omega)
    first | (have qb : c ≤ 239 := by omega) | (have qb : ¬ c ≤ 239 := by omega)
    first | (have qc : 240 ≤ c := by omega) | (have qc : ¬ 240 ≤ c := by omega)
    first | (have qd : c ≤ 244 := by omega) | (have qd : ¬ c ≤ 244 := by omega)
    simp [*]
  have hiz : (i : Int) < (s.size : Int) := by omega
  first | (have z0 : (c : Int) < 128 := by omega) | (have z0 : ¬ (c : Int) < 128 := by omega)
  first | (have z4 : (194 : Int) ≤ c := by omega) | (have z4 : ¬ (194 : Int) ≤ c := by omega)
  first | (have z5 : (c : Int) ≤ 223 := by omega) | (have z5 : ¬ (c : Int) ≤ 223 := by omega)
  first | (have z10 : (224 : Int) ≤ c := by omega) | (have z10 : ¬ (224 : Int) ≤ c := by omega)
  first | (have z11 : (c : Int) ≤ 239 := by omega) | (have z11 : ¬ (c : Int) ≤ 239 := by omega)
  first | (have z12 : (240 : Int) ≤ c := by omega) | (have z12 : ¬ (240 : Int) ≤ c := by omega)
  first | (have z13 : (c : Int) ≤ 244 := by omega) | (have z13 : ¬ (c : Int) ≤ 244 := by omega)
  first | (have y0 : ((c : Int) == 224) = true := by rw [beq_iff_eq]; omega) | (have y0 : ((c : Int) == 224) = false := by rw [beq_eq_false_iff_ne]; omega)
  first | (have y1 : ((c : Int) == 237) = true := by rw [beq_iff_eq]; omega) | (have y1 : ((c : Int) == 237) = false := by rw [beq_eq_false_iff_ne]; omega)
  first | (have y2 : ((c : Int) == 240) = true := by rw [beq_iff_eq]; omega) | (have y2 : ((c : Int) == 240) = false := by rw [beq_eq_false_iff_ne]; omega)
  first | (have y3 : ((c : Int) == 244) = true := by rw [beq_iff_eq]; omega) | (have y3 : ((c : Int) == 244) = false := by rw [beq_eq_false_iff_ne]; omega)
  go_enter Tryz.func87, Tryz.ntmps87
  go_wp2_with (first | (go_at_call 101; refine (tail_any s _ _ _ _ (by omega) hs (by omega) (by omega)).mono ?_; rintro e w' ⟨rfl, rfl⟩) | (go_at_call 102; refine (low_any s _ _ (by omega) (by omega)).mono ?_; rintro e w' ⟨rfl, rfl⟩))
  go_ret2
  exact ⟨ret_two (by rw [HF.out.1] <;> first | rfl | (simp; done) | (simp; omega)) (by rw [HF.out.2] <;> first | rfl | (simp; done)), rfl⟩

set_option maxRecDepth 100000 in
set_option maxHeartbeats 1000000 in
theorem first_H10 (s : ByteArray) (i c : Nat) (w : World) (hi : i < s.size) (hs : s.size ≤ 4294967296) (hc : (s[i]'hi).toNat = c) (h : 240 ≤ c) (h' : c ≤ 240) (h1a : tailB s (i + 1) 144 191 = true) (h2b : tailB s (i + 2) 128 191 = false) :
    Calls Tryz.prog 87 #[.string s, .int .i64 i] w fun e w' => e = .returned (.tuple #[.int .i64 (firstRef s i).1, .int .i64 (firstRef s i).2]) ∧ w = w' := by
  have HF : Hid ((firstRef s i).1 = (-1 : Int) ∧ (firstRef s i).2 = 1) := by
    have hcb : byteAt s i = c := by rw [byteAt_get s i hi, hc]
    unfold Hid firstRef
    simp only [hcb]
    first | (have q0 : c < 128 := by omega) | (have q0 : ¬ c < 128 := by omega)
    first | (have q4 : 194 ≤ c := by omega) | (have q4 : ¬ 194 ≤ c := by omega)
    first | (have q5 : c ≤ 223 := by omega) | (have q5 : ¬ c ≤ 223 := by omega)
    first | (have q6 : c = 240 := by omega) | (have q6 : ¬ c = 240 := by omega)
    first | (have q7 : c = 224 := by omega) | (have q7 : ¬ c = 224 := by omega)
    first | (have q8 : c = 244 := by omega) | (have q8 : ¬ c = 244 := by omega)
    first | (have q9 : c = 237 := by omega) | (have q9 : ¬ c = 237 := by omega)
    first | (have qa : 224 ≤ c := by omega) | (have qa : ¬ 224 ≤ c := by omega)
    first | (have qb : c ≤ 239 := by omega) | (have qb : ¬ c ≤ 239 := by omega)
    first | (have qc : 240 ≤ c := by omega) | (have qc : ¬ 240 ≤ c := by omega)
    first | (have qd : c ≤ 244 := by omega) | (have qd : ¬ c ≤ 244 := by omega)
    simp [*]
  have hiz : (i : Int) < (s.size : Int) := by omega
  have lh1a := tail_lt h1a
  first | (have z0 : (c : Int) < 128 := by omega) | (have z0 : ¬ (c : Int) < 128 := by omega)
  first | (have z4 : (194 : Int) ≤ c := by omega) | (have z4 : ¬ (194 : Int) ≤ c := by omega)
  first | (have z5 : (c : Int) ≤ 223 := by omega) | (have z5 : ¬ (c : Int) ≤ 223 := by omega)
  first | (have z10 : (224 : Int) ≤ c := by omega) | (have z10 : ¬ (224 : Int) ≤ c := by omega)
  first | (have z11 : (c : Int) ≤ 239 := by omega) | (have z11 : ¬ (c : Int) ≤ 239 := by omega)
  first | (have z12 : (240 : Int) ≤ c := by omega) | (have z12 : ¬ (240 : Int) ≤ c := by omega)
  first | (have z13 : (c : Int) ≤ 244 := by omega) | (have z13 : ¬ (c : Int) ≤ 244 := by omega)
  first | (have y0 : ((c : Int) == 224) = true := by rw [beq_iff_eq]; omega) | (have y0 : ((c : Int) == 224) = false := by rw [beq_eq_false_iff_ne]; omega)
  first | (have y1 : ((c : Int) == 237) = true := by rw [beq_iff_eq]; omega) | (have y1 : ((c : Int) == 237) = false := by rw [beq_eq_false_iff_ne]; omega)
  first | (have y2 : ((c : Int) == 240) = true := by rw [beq_iff_eq]; omega) | (have y2 : ((c : Int) == 240) = false := by rw [beq_eq_false_iff_ne]; omega)
  first | (have y3 : ((c : Int) == 244) = true := by rw [beq_iff_eq]; omega) | (have y3 : ((c : Int) == 244) = false := by rw [beq_eq_false_iff_ne]; omega)
  go_enter Tryz.func87, Tryz.ntmps87
  go_wp2_with (first | (go_at_call 101; refine (tail_any s _ _ _ _ (by omega) hs (by omega) (by omega)).mono ?_; rintro e w' ⟨rfl, rfl⟩) | (go_at_call 102; refine (low_any s _ _ (by omega) (by omega)).mono ?_; rintro e w' ⟨rfl, rfl⟩))
  go_ret2
  exact ⟨ret_two (by rw [HF.out.1] <;> first | rfl | (simp; done) | (simp; omega)) (by rw [HF.out.2] <;> first | rfl | (simp; done)), rfl⟩

set_option maxRecDepth 100000 in
set_option maxHeartbeats 1000000 in
theorem first_H110 (s : ByteArray) (i c : Nat) (w : World) (hi : i < s.size) (hs : s.size ≤ 4294967296) (hc : (s[i]'hi).toNat = c) (h : 240 ≤ c) (h' : c ≤ 240) (h1a : tailB s (i + 1) 144 191 = true) (h2b : tailB s (i + 2) 128 191 = true) (h3c : tailB s (i + 3) 128 191 = false) :
    Calls Tryz.prog 87 #[.string s, .int .i64 i] w fun e w' => e = .returned (.tuple #[.int .i64 (firstRef s i).1, .int .i64 (firstRef s i).2]) ∧ w = w' := by
  have HF : Hid ((firstRef s i).1 = (-1 : Int) ∧ (firstRef s i).2 = 1) := by
    have hcb : byteAt s i = c := by rw [byteAt_get s i hi, hc]
    unfold Hid firstRef
    simp only [hcb]
    first | (have q0 : c < 128 := by omega) | (have q0 : ¬ c < 128 := by omega)
    first | (have q4 : 194 ≤ c := by omega) | (have q4 : ¬ 194 ≤ c := by omega)
    first | (have q5 : c ≤ 223 := by omega) | (have q5 : ¬ c ≤ 223 := by omega)
    first | (have q6 : c = 240 := by omega) | (have q6 : ¬ c = 240 := by omega)
    first | (have q7 : c = 224 := by omega) | (have q7 : ¬ c = 224 := by omega)
    first | (have q8 : c = 244 := by omega) | (have q8 : ¬ c = 244 := by omega)
    first | (have q9 : c = 237 := by omega) | (have q9 : ¬ c = 237 := by omega)
    first | (have qa : 224 ≤ c := by omega) | (have qa : ¬ 224 ≤ c := by omega)
    first | (have qb : c ≤ 239 := by omega) | (have qb : ¬ c ≤ 239 := by omega)
    first | (have qc : 240 ≤ c := by omega) | (have qc : ¬ 240 ≤ c := by omega)
    first | (have qd : c ≤ 244 := by omega) | (have qd : ¬ c ≤ 244 := by omega)
    simp [*]
  have hiz : (i : Int) < (s.size : Int) := by omega
  have lh1a := tail_lt h1a
  have lh2b := tail_lt h2b
  first | (have z0 : (c : Int) < 128 := by omega) | (have z0 : ¬ (c : Int) < 128 := by omega)
  first | (have z4 : (194 : Int) ≤ c := by omega) | (have z4 : ¬ (194 : Int) ≤ c := by omega)
  first | (have z5 : (c : Int) ≤ 223 := by omega) | (have z5 : ¬ (c : Int) ≤ 223 := by omega)
  first | (have z10 : (224 : Int) ≤ c := by omega) | (have z10 : ¬ (224 : Int) ≤ c := by omega)
  first | (have z11 : (c : Int) ≤ 239 := by omega) | (have z11 : ¬ (c : Int) ≤ 239 := by omega)
  first | (have z12 : (240 : Int) ≤ c := by omega) | (have z12 : ¬ (240 : Int) ≤ c := by omega)
  first | (have z13 : (c : Int) ≤ 244 := by omega) | (have z13 : ¬ (c : Int) ≤ 244 := by omega)
  first | (have y0 : ((c : Int) == 224) = true := by rw [beq_iff_eq]; omega) | (have y0 : ((c : Int) == 224) = false := by rw [beq_eq_false_iff_ne]; omega)
  first | (have y1 : ((c : Int) == 237) = true := by rw [beq_iff_eq]; omega) | (have y1 : ((c : Int) == 237) = false := by rw [beq_eq_false_iff_ne]; omega)
  first | (have y2 : ((c : Int) == 240) = true := by rw [beq_iff_eq]; omega) | (have y2 : ((c : Int) == 240) = false := by rw [beq_eq_false_iff_ne]; omega)
  first | (have y3 : ((c : Int) == 244) = true := by rw [beq_iff_eq]; omega) | (have y3 : ((c : Int) == 244) = false := by rw [beq_eq_false_iff_ne]; omega)
  go_enter Tryz.func87, Tryz.ntmps87
  go_wp2_with (first | (go_at_call 101; refine (tail_any s _ _ _ _ (by omega) hs (by omega) (by omega)).mono ?_; rintro e w' ⟨rfl, rfl⟩) | (go_at_call 102; refine (low_any s _ _ (by omega) (by omega)).mono ?_; rintro e w' ⟨rfl, rfl⟩))
  all_goals first
    | (have hx : tailB s (i + 3) 128 191 = true := by assumption
       exact absurd (hx.symm.trans h3c) (by decide))
    | (go_ret2; exact ⟨ret_two (by rw [HF.out.1] <;> first | rfl | (simp; done) | (simp; omega)) (by rw [HF.out.2] <;> first | rfl | (simp; done)), rfl⟩)

set_option maxRecDepth 100000 in
set_option maxHeartbeats 1000000 in
theorem first_H111 (s : ByteArray) (i c : Nat) (w : World) (hi : i < s.size) (hs : s.size ≤ 4294967296) (hc : (s[i]'hi).toNat = c) (h : 240 ≤ c) (h' : c ≤ 240) (h1a : tailB s (i + 1) 144 191 = true) (h2b : tailB s (i + 2) 128 191 = true) (h3c : tailB s (i + 3) 128 191 = true) :
    Calls Tryz.prog 87 #[.string s, .int .i64 i] w fun e w' => e = .returned (.tuple #[.int .i64 (firstRef s i).1, .int .i64 (firstRef s i).2]) ∧ w = w' := by
  have HF : Hid ((firstRef s i).1 = ((c % 8 * 262144 + byteAt s (i + 1) % 64 * 4096 + byteAt s (i + 2) % 64 * 64 + byteAt s (i + 3) % 64 : Nat) : Int) ∧ (firstRef s i).2 = 4) := by
    have hcb : byteAt s i = c := by rw [byteAt_get s i hi, hc]
    unfold Hid firstRef
    simp only [hcb]
    first | (have q0 : c < 128 := by omega) | (have q0 : ¬ c < 128 := by omega)
    first | (have q4 : 194 ≤ c := by omega) | (have q4 : ¬ 194 ≤ c := by omega)
    first | (have q5 : c ≤ 223 := by omega) | (have q5 : ¬ c ≤ 223 := by omega)
    first | (have q6 : c = 240 := by omega) | (have q6 : ¬ c = 240 := by omega)
    first | (have q7 : c = 224 := by omega) | (have q7 : ¬ c = 224 := by omega)
    first | (have q8 : c = 244 := by omega) | (have q8 : ¬ c = 244 := by omega)
    first | (have q9 : c = 237 := by omega) | (have q9 : ¬ c = 237 := by omega)
    first | (have qa : 224 ≤ c := by omega) | (have qa : ¬ 224 ≤ c := by omega)
    first | (have qb : c ≤ 239 := by omega) | (have qb : ¬ c ≤ 239 := by omega)
    first | (have qc : 240 ≤ c := by omega) | (have qc : ¬ 240 ≤ c := by omega)
    first | (have qd : c ≤ 244 := by omega) | (have qd : ¬ c ≤ 244 := by omega)
    simp [*]
  have hiz : (i : Int) < (s.size : Int) := by omega
  have lh1a := tail_lt h1a
  have lh2b := tail_lt h2b
  have lh3c := tail_lt h3c
  first | (have z0 : (c : Int) < 128 := by omega) | (have z0 : ¬ (c : Int) < 128 := by omega)
  first | (have z4 : (194 : Int) ≤ c := by omega) | (have z4 : ¬ (194 : Int) ≤ c := by omega)
  first | (have z5 : (c : Int) ≤ 223 := by omega) | (have z5 : ¬ (c : Int) ≤ 223 := by omega)
  first | (have z10 : (224 : Int) ≤ c := by omega) | (have z10 : ¬ (224 : Int) ≤ c := by omega)
  first | (have z11 : (c : Int) ≤ 239 := by omega) | (have z11 : ¬ (c : Int) ≤ 239 := by omega)
  first | (have z12 : (240 : Int) ≤ c := by omega) | (have z12 : ¬ (240 : Int) ≤ c := by omega)
  first | (have z13 : (c : Int) ≤ 244 := by omega) | (have z13 : ¬ (c : Int) ≤ 244 := by omega)
  first | (have y0 : ((c : Int) == 224) = true := by rw [beq_iff_eq]; omega) | (have y0 : ((c : Int) == 224) = false := by rw [beq_eq_false_iff_ne]; omega)
  first | (have y1 : ((c : Int) == 237) = true := by rw [beq_iff_eq]; omega) | (have y1 : ((c : Int) == 237) = false := by rw [beq_eq_false_iff_ne]; omega)
  first | (have y2 : ((c : Int) == 240) = true := by rw [beq_iff_eq]; omega) | (have y2 : ((c : Int) == 240) = false := by rw [beq_eq_false_iff_ne]; omega)
  first | (have y3 : ((c : Int) == 244) = true := by rw [beq_iff_eq]; omega) | (have y3 : ((c : Int) == 244) = false := by rw [beq_eq_false_iff_ne]; omega)
  go_enter Tryz.func87, Tryz.ntmps87
  go_wp2_with (first | (go_at_call 101; refine (tail_any s _ _ _ _ (by omega) hs (by omega) (by omega)).mono ?_; rintro e w' ⟨rfl, rfl⟩) | (go_at_call 102; refine (low_any s _ _ (by omega) (by omega)).mono ?_; rintro e w' ⟨rfl, rfl⟩))
  all_goals first
    | (have hx : tailB s (i + 3) 128 191 = false := by assumption
       exact absurd (hx.symm.trans h3c) (by decide))
    | (go_ret2; exact ⟨ret_two (by rw [HF.out.1] <;> first | rfl | (simp; done) | (simp; omega)) (by rw [HF.out.2] <;> first | rfl | (simp; done)), rfl⟩)

set_option maxRecDepth 100000 in
set_option maxHeartbeats 1000000 in
theorem first_I0 (s : ByteArray) (i c : Nat) (w : World) (hi : i < s.size) (hs : s.size ≤ 4294967296) (hc : (s[i]'hi).toNat = c) (h : 241 ≤ c) (h' : c ≤ 243) (h1a : tailB s (i + 1) 128 191 = false) :
    Calls Tryz.prog 87 #[.string s, .int .i64 i] w fun e w' => e = .returned (.tuple #[.int .i64 (firstRef s i).1, .int .i64 (firstRef s i).2]) ∧ w = w' := by
  have HF : Hid ((firstRef s i).1 = (-1 : Int) ∧ (firstRef s i).2 = 1) := by
    have hcb : byteAt s i = c := by rw [byteAt_get s i hi, hc]
    unfold Hid firstRef
    simp only [hcb]
    first | (have q0 : c < 128 := by omega) | (have q0 : ¬ c < 128 := by omega)
    first | (have q4 : 194 ≤ c := by omega) | (have q4 : ¬ 194 ≤ c := by omega)
    first | (have q5 : c ≤ 223 := by omega) | (have q5 : ¬ c ≤ 223 := by omega)
    first | (have q6 : c = 240 := by omega) | (have q6 : ¬ c = 240 := by omega)
    first | (have q7 : c = 224 := by omega) | (have q7 : ¬ c = 224 := by omega)
    first | (have q8 : c = 244 := by omega) | (have q8 : ¬ c = 244 := by omega)
    first | (have q9 : c = 237 := by omega) | (have q9 : ¬ c = 237 := by omega)
    first | (have qa : 224 ≤ c := by omega) | (have qa : ¬ 224 ≤ c := by omega)
    first | (have qb : c ≤ 239 := by omega) | (have qb : ¬ c ≤ 239 := by omega)
    first | (have qc : 240 ≤ c := by omega) | (have qc : ¬ 240 ≤ c := by omega)
    first | (have qd : c ≤ 244 := by omega) | (have qd : ¬ c ≤ 244 := by omega)
    simp [*]
  have hiz : (i : Int) < (s.size : Int) := by omega
  first | (have z0 : (c : Int) < 128 := by omega) | (have z0 : ¬ (c : Int) < 128 := by omega)
  first | (have z4 : (194 : Int) ≤ c := by omega) | (have z4 : ¬ (194 : Int) ≤ c := by omega)
  first | (have z5 : (c : Int) ≤ 223 := by omega) | (have z5 : ¬ (c : Int) ≤ 223 := by omega)
  first | (have z10 : (224 : Int) ≤ c := by omega) | (have z10 : ¬ (224 : Int) ≤ c := by omega)
  first | (have z11 : (c : Int) ≤ 239 := by omega) | (have z11 : ¬ (c : Int) ≤ 239 := by omega)
  first | (have z12 : (240 : Int) ≤ c := by omega) | (have z12 : ¬ (240 : Int) ≤ c := by omega)
  first | (have z13 : (c : Int) ≤ 244 := by omega) | (have z13 : ¬ (c : Int) ≤ 244 := by omega)
  first | (have y0 : ((c : Int) == 224) = true := by rw [beq_iff_eq]; omega) | (have y0 : ((c : Int) == 224) = false := by rw [beq_eq_false_iff_ne]; omega)
  first | (have y1 : ((c : Int) == 237) = true := by rw [beq_iff_eq]; omega) | (have y1 : ((c : Int) == 237) = false := by rw [beq_eq_false_iff_ne]; omega)
  first | (have y2 : ((c : Int) == 240) = true := by rw [beq_iff_eq]; omega) | (have y2 : ((c : Int) == 240) = false := by rw [beq_eq_false_iff_ne]; omega)
  first | (have y3 : ((c : Int) == 244) = true := by rw [beq_iff_eq]; omega) | (have y3 : ((c : Int) == 244) = false := by rw [beq_eq_false_iff_ne]; omega)
  go_enter Tryz.func87, Tryz.ntmps87
  go_wp2_with (first | (go_at_call 101; refine (tail_any s _ _ _ _ (by omega) hs (by omega) (by omega)).mono ?_; rintro e w' ⟨rfl, rfl⟩) | (go_at_call 102; refine (low_any s _ _ (by omega) (by omega)).mono ?_; rintro e w' ⟨rfl, rfl⟩))
  go_ret2
  exact ⟨ret_two (by rw [HF.out.1] <;> first | rfl | (simp; done) | (simp; omega)) (by rw [HF.out.2] <;> first | rfl | (simp; done)), rfl⟩

set_option maxRecDepth 100000 in
set_option maxHeartbeats 1000000 in
theorem first_I10 (s : ByteArray) (i c : Nat) (w : World) (hi : i < s.size) (hs : s.size ≤ 4294967296) (hc : (s[i]'hi).toNat = c) (h : 241 ≤ c) (h' : c ≤ 243) (h1a : tailB s (i + 1) 128 191 = true) (h2b : tailB s (i + 2) 128 191 = false) :
    Calls Tryz.prog 87 #[.string s, .int .i64 i] w fun e w' => e = .returned (.tuple #[.int .i64 (firstRef s i).1, .int .i64 (firstRef s i).2]) ∧ w = w' := by
  have HF : Hid ((firstRef s i).1 = (-1 : Int) ∧ (firstRef s i).2 = 1) := by
    have hcb : byteAt s i = c := by rw [byteAt_get s i hi, hc]
    unfold Hid firstRef
    simp only [hcb]
    first | (have q0 : c < 128 := by omega) | (have q0 : ¬ c < 128 := by omega)
    first | (have q4 : 194 ≤ c := by omega) | (have q4 : ¬ 194 ≤ c := by omega)
    first | (have q5 : c ≤ 223 := by omega) | (have q5 : ¬ c ≤ 223 := by omega)
    first | (have q6 : c = 240 := by omega) | (have q6 : ¬ c = 240 := by omega)
    first | (have q7 : c = 224 := by omega) | (have q7 : ¬ c = 224 := by omega)
    first | (have q8 : c = 244 := by omega) | (have q8 : ¬ c = 244 := by omega)
    first | (have q9 : c = 237 := by omega) | (have q9 : ¬ c = 237 := by omega)
    first | (have qa : 224 ≤ c := by omega) | (have qa : ¬ 224 ≤ c := by omega)
    first | (have qb : c ≤ 239 := by omega) | (have qb : ¬ c ≤ 239 := by omega)
    first | (have qc : 240 ≤ c := by omega) | (have qc : ¬ 240 ≤ c := by omega)
    first | (have qd : c ≤ 244 := by omega) | (have qd : ¬ c ≤ 244 := by omega)
    simp [*]
  have hiz : (i : Int) < (s.size : Int) := by omega
  have lh1a := tail_lt h1a
  first | (have z0 : (c : Int) < 128 := by omega) | (have z0 : ¬ (c : Int) < 128 := by omega)
  first | (have z4 : (194 : Int) ≤ c := by omega) | (have z4 : ¬ (194 : Int) ≤ c := by omega)
  first | (have z5 : (c : Int) ≤ 223 := by omega) | (have z5 : ¬ (c : Int) ≤ 223 := by omega)
  first | (have z10 : (224 : Int) ≤ c := by omega) | (have z10 : ¬ (224 : Int) ≤ c := by omega)
  first | (have z11 : (c : Int) ≤ 239 := by omega) | (have z11 : ¬ (c : Int) ≤ 239 := by omega)
  first | (have z12 : (240 : Int) ≤ c := by omega) | (have z12 : ¬ (240 : Int) ≤ c := by omega)
  first | (have z13 : (c : Int) ≤ 244 := by omega) | (have z13 : ¬ (c : Int) ≤ 244 := by omega)
  first | (have y0 : ((c : Int) == 224) = true := by rw [beq_iff_eq]; omega) | (have y0 : ((c : Int) == 224) = false := by rw [beq_eq_false_iff_ne]; omega)
  first | (have y1 : ((c : Int) == 237) = true := by rw [beq_iff_eq]; omega) | (have y1 : ((c : Int) == 237) = false := by rw [beq_eq_false_iff_ne]; omega)
  first | (have y2 : ((c : Int) == 240) = true := by rw [beq_iff_eq]; omega) | (have y2 : ((c : Int) == 240) = false := by rw [beq_eq_false_iff_ne]; omega)
  first | (have y3 : ((c : Int) == 244) = true := by rw [beq_iff_eq]; omega) | (have y3 : ((c : Int) == 244) = false := by rw [beq_eq_false_iff_ne]; omega)
  go_enter Tryz.func87, Tryz.ntmps87
  go_wp2_with (first | (go_at_call 101; refine (tail_any s _ _ _ _ (by omega) hs (by omega) (by omega)).mono ?_; rintro e w' ⟨rfl, rfl⟩) | (go_at_call 102; refine (low_any s _ _ (by omega) (by omega)).mono ?_; rintro e w' ⟨rfl, rfl⟩))
  go_ret2
  exact ⟨ret_two (by rw [HF.out.1] <;> first | rfl | (simp; done) | (simp; omega)) (by rw [HF.out.2] <;> first | rfl | (simp; done)), rfl⟩

set_option maxRecDepth 100000 in
set_option maxHeartbeats 1000000 in
theorem first_I110 (s : ByteArray) (i c : Nat) (w : World) (hi : i < s.size) (hs : s.size ≤ 4294967296) (hc : (s[i]'hi).toNat = c) (h : 241 ≤ c) (h' : c ≤ 243) (h1a : tailB s (i + 1) 128 191 = true) (h2b : tailB s (i + 2) 128 191 = true) (h3c : tailB s (i + 3) 128 191 = false) :
    Calls Tryz.prog 87 #[.string s, .int .i64 i] w fun e w' => e = .returned (.tuple #[.int .i64 (firstRef s i).1, .int .i64 (firstRef s i).2]) ∧ w = w' := by
  have HF : Hid ((firstRef s i).1 = (-1 : Int) ∧ (firstRef s i).2 = 1) := by
    have hcb : byteAt s i = c := by rw [byteAt_get s i hi, hc]
    unfold Hid firstRef
    simp only [hcb]
    first | (have q0 : c < 128 := by omega) | (have q0 : ¬ c < 128 := by omega)
    first | (have q4 : 194 ≤ c := by omega) | (have q4 : ¬ 194 ≤ c := by omega)
    first | (have q5 : c ≤ 223 := by omega) | (have q5 : ¬ c ≤ 223 := by omega)
    first | (have q6 : c = 240 := by omega) | (have q6 : ¬ c = 240 := by omega)
    first | (have q7 : c = 224 := by omega) | (have q7 : ¬ c = 224 := by omega)
    first | (have q8 : c = 244 := by omega) | (have q8 : ¬ c = 244 := by omega)
    first | (have q9 : c = 237 := by omega) | (have q9 : ¬ c = 237 := by omega)
    first | (have qa : 224 ≤ c := by omega) | (have qa : ¬ 224 ≤ c := by omega)
    first | (have qb : c ≤ 239 := by omega) | (have qb : ¬ c ≤ 239 := by omega)
    first | (have qc : 240 ≤ c := by omega) | (have qc : ¬ 240 ≤ c := by omega)
    first | (have qd : c ≤ 244 := by omega) | (have qd : ¬ c ≤ 244 := by omega)
    simp [*]
  have hiz : (i : Int) < (s.size : Int) := by omega
  have lh1a := tail_lt h1a
  have lh2b := tail_lt h2b
  first | (have z0 : (c : Int) < 128 := by omega) | (have z0 : ¬ (c : Int) < 128 := by omega)
  first | (have z4 : (194 : Int) ≤ c := by omega) | (have z4 : ¬ (194 : Int) ≤ c := by omega)
  first | (have z5 : (c : Int) ≤ 223 := by omega) | (have z5 : ¬ (c : Int) ≤ 223 := by omega)
  first | (have z10 : (224 : Int) ≤ c := by omega) | (have z10 : ¬ (224 : Int) ≤ c := by omega)
  first | (have z11 : (c : Int) ≤ 239 := by omega) | (have z11 : ¬ (c : Int) ≤ 239 := by omega)
  first | (have z12 : (240 : Int) ≤ c := by omega) | (have z12 : ¬ (240 : Int) ≤ c := by omega)
  first | (have z13 : (c : Int) ≤ 244 := by omega) | (have z13 : ¬ (c : Int) ≤ 244 := by omega)
  first | (have y0 : ((c : Int) == 224) = true := by rw [beq_iff_eq]; omega) | (have y0 : ((c : Int) == 224) = false := by rw [beq_eq_false_iff_ne]; omega)
  first | (have y1 : ((c : Int) == 237) = true := by rw [beq_iff_eq]; omega) | (have y1 : ((c : Int) == 237) = false := by rw [beq_eq_false_iff_ne]; omega)
  first | (have y2 : ((c : Int) == 240) = true := by rw [beq_iff_eq]; omega) | (have y2 : ((c : Int) == 240) = false := by rw [beq_eq_false_iff_ne]; omega)
  first | (have y3 : ((c : Int) == 244) = true := by rw [beq_iff_eq]; omega) | (have y3 : ((c : Int) == 244) = false := by rw [beq_eq_false_iff_ne]; omega)
  go_enter Tryz.func87, Tryz.ntmps87
  go_wp2_with (first | (go_at_call 101; refine (tail_any s _ _ _ _ (by omega) hs (by omega) (by omega)).mono ?_; rintro e w' ⟨rfl, rfl⟩) | (go_at_call 102; refine (low_any s _ _ (by omega) (by omega)).mono ?_; rintro e w' ⟨rfl, rfl⟩))
  all_goals first
    | (have hx : tailB s (i + 3) 128 191 = true := by assumption
       exact absurd (hx.symm.trans h3c) (by decide))
    | (go_ret2; exact ⟨ret_two (by rw [HF.out.1] <;> first | rfl | (simp; done) | (simp; omega)) (by rw [HF.out.2] <;> first | rfl | (simp; done)), rfl⟩)

set_option maxRecDepth 100000 in
set_option maxHeartbeats 1000000 in
theorem first_I111 (s : ByteArray) (i c : Nat) (w : World) (hi : i < s.size) (hs : s.size ≤ 4294967296) (hc : (s[i]'hi).toNat = c) (h : 241 ≤ c) (h' : c ≤ 243) (h1a : tailB s (i + 1) 128 191 = true) (h2b : tailB s (i + 2) 128 191 = true) (h3c : tailB s (i + 3) 128 191 = true) :
    Calls Tryz.prog 87 #[.string s, .int .i64 i] w fun e w' => e = .returned (.tuple #[.int .i64 (firstRef s i).1, .int .i64 (firstRef s i).2]) ∧ w = w' := by
  have HF : Hid ((firstRef s i).1 = ((c % 8 * 262144 + byteAt s (i + 1) % 64 * 4096 + byteAt s (i + 2) % 64 * 64 + byteAt s (i + 3) % 64 : Nat) : Int) ∧ (firstRef s i).2 = 4) := by
    have hcb : byteAt s i = c := by rw [byteAt_get s i hi, hc]
    unfold Hid firstRef
    simp only [hcb]
    first | (have q0 : c < 128 := by omega) | (have q0 : ¬ c < 128 := by omega)
    first | (have q4 : 194 ≤ c := by omega) | (have q4 : ¬ 194 ≤ c := by omega)
    first | (have q5 : c ≤ 223 := by omega) | (have q5 : ¬ c ≤ 223 := by omega)
    first | (have q6 : c = 240 := by omega) | (have q6 : ¬ c = 240 := by omega)
    first | (have q7 : c = 224 := by omega) | (have q7 : ¬ c = 224 := by omega)
    first | (have q8 : c = 244 := by omega) | (have q8 : ¬ c = 244 := by omega)
    first | (have q9 : c = 237 := by omega) | (have q9 : ¬ c = 237 := by omega)
    first | (have qa : 224 ≤ c := by omega) | (have qa : ¬ 224 ≤ c := by omega)
    first | (have qb : c ≤ 239 := by omega) | (have qb : ¬ c ≤ 239 := by omega)
    first | (have qc : 240 ≤ c := by omega) | (have qc : ¬ 240 ≤ c := by omega)
    first | (have qd : c ≤ 244 := by omega) | (have qd : ¬ c ≤ 244 := by omega)
    simp [*]
  have hiz : (i : Int) < (s.size : Int) := by omega
  have lh1a := tail_lt h1a
  have lh2b := tail_lt h2b
  have lh3c := tail_lt h3c
  first | (have z0 : (c : Int) < 128 := by omega) | (have z0 : ¬ (c : Int) < 128 := by omega)
  first | (have z4 : (194 : Int) ≤ c := by omega) | (have z4 : ¬ (194 : Int) ≤ c := by omega)
  first | (have z5 : (c : Int) ≤ 223 := by omega) | (have z5 : ¬ (c : Int) ≤ 223 := by omega)
  first | (have z10 : (224 : Int) ≤ c := by omega) | (have z10 : ¬ (224 : Int) ≤ c := by omega)
  first | (have z11 : (c : Int) ≤ 239 := by omega) | (have z11 : ¬ (c : Int) ≤ 239 := by omega)
  first | (have z12 : (240 : Int) ≤ c := by omega) | (have z12 : ¬ (240 : Int) ≤ c := by omega)
  first | (have z13 : (c : Int) ≤ 244 := by omega) | (have z13 : ¬ (c : Int) ≤ 244 := by omega)
  first | (have y0 : ((c : Int) == 224) = true := by rw [beq_iff_eq]; omega) | (have y0 : ((c : Int) == 224) = false := by rw [beq_eq_false_iff_ne]; omega)
  first | (have y1 : ((c : Int) == 237) = true := by rw [beq_iff_eq]; omega) | (have y1 : ((c : Int) == 237) = false := by rw [beq_eq_false_iff_ne]; omega)
  first | (have y2 : ((c : Int) == 240) = true := by rw [beq_iff_eq]; omega) | (have y2 : ((c : Int) == 240) = false := by rw [beq_eq_false_iff_ne]; omega)
  first | (have y3 : ((c : Int) == 244) = true := by rw [beq_iff_eq]; omega) | (have y3 : ((c : Int) == 244) = false := by rw [beq_eq_false_iff_ne]; omega)
  go_enter Tryz.func87, Tryz.ntmps87
  go_wp2_with (first | (go_at_call 101; refine (tail_any s _ _ _ _ (by omega) hs (by omega) (by omega)).mono ?_; rintro e w' ⟨rfl, rfl⟩) | (go_at_call 102; refine (low_any s _ _ (by omega) (by omega)).mono ?_; rintro e w' ⟨rfl, rfl⟩))
  all_goals first
    | (have hx : tailB s (i + 3) 128 191 = false := by assumption
       exact absurd (hx.symm.trans h3c) (by decide))
    | (go_ret2; exact ⟨ret_two (by rw [HF.out.1] <;> first | rfl | (simp; done) | (simp; omega)) (by rw [HF.out.2] <;> first | rfl | (simp; done)), rfl⟩)

set_option maxRecDepth 100000 in
set_option maxHeartbeats 1000000 in
theorem first_J0 (s : ByteArray) (i c : Nat) (w : World) (hi : i < s.size) (hs : s.size ≤ 4294967296) (hc : (s[i]'hi).toNat = c) (h : 244 ≤ c) (h' : c ≤ 244) (h1a : tailB s (i + 1) 128 143 = false) :
    Calls Tryz.prog 87 #[.string s, .int .i64 i] w fun e w' => e = .returned (.tuple #[.int .i64 (firstRef s i).1, .int .i64 (firstRef s i).2]) ∧ w = w' := by
  have HF : Hid ((firstRef s i).1 = (-1 : Int) ∧ (firstRef s i).2 = 1) := by
    have hcb : byteAt s i = c := by rw [byteAt_get s i hi, hc]
    unfold Hid firstRef
    simp only [hcb]
    first | (have q0 : c < 128 := by omega) | (have q0 : ¬ c < 128 := by omega)
    first | (have q4 : 194 ≤ c := by omega) | (have q4 : ¬ 194 ≤ c := by omega)
    first | (have q5 : c ≤ 223 := by omega) | (have q5 : ¬ c ≤ 223 := by omega)
    first | (have q6 : c = 240 := by omega) | (have q6 : ¬ c = 240 := by omega)
    first | (have q7 : c = 224 := by omega) | (have q7 : ¬ c = 224 := by omega)
    first | (have q8 : c = 244 := by omega) | (have q8 : ¬ c = 244 := by omega)
    first | (have q9 : c = 237 := by omega) | (have q9 : ¬ c = 237 := by omega)
    first | (have qa : 224 ≤ c := by omega) | (have qa : ¬ 224 ≤ c := by omega)
    first | (have qb : c ≤ 239 := by omega) | (have qb : ¬ c ≤ 239 := by omega)
    first | (have qc : 240 ≤ c := by omega) | (have qc : ¬ 240 ≤ c := by omega)
    first | (have qd : c ≤ 244 := by omega) | (have qd : ¬ c ≤ 244 := by omega)
    simp [*]
  have hiz : (i : Int) < (s.size : Int) := by omega
  first | (have z0 : (c : Int) < 128 := by omega) | (have z0 : ¬ (c : Int) < 128 := by omega)
  first | (have z4 : (194 : Int) ≤ c := by omega) | (have z4 : ¬ (194 : Int) ≤ c := by omega)
  first | (have z5 : (c : Int) ≤ 223 := by omega) | (have z5 : ¬ (c : Int) ≤ 223 := by omega)
  first | (have z10 : (224 : Int) ≤ c := by omega) | (have z10 : ¬ (224 : Int) ≤ c := by omega)
  first | (have z11 : (c : Int) ≤ 239 := by omega) | (have z11 : ¬ (c : Int) ≤ 239 := by omega)
  first | (have z12 : (240 : Int) ≤ c := by omega) | (have z12 : ¬ (240 : Int) ≤ c := by omega)
  first | (have z13 : (c : Int) ≤ 244 := by omega) | (have z13 : ¬ (c : Int) ≤ 244 := by omega)
  first | (have y0 : ((c : Int) == 224) = true := by rw [beq_iff_eq]; omega) | (have y0 : ((c : Int) == 224) = false := by rw [beq_eq_false_iff_ne]; omega)
  first | (have y1 : ((c : Int) == 237) = true := by rw [beq_iff_eq]; omega) | (have y1 : ((c : Int) == 237) = false := by rw [beq_eq_false_iff_ne]; omega)
  first | (have y2 : ((c : Int) == 240) = true := by rw [beq_iff_eq]; omega) | (have y2 : ((c : Int) == 240) = false := by rw [beq_eq_false_iff_ne]; omega)
  first | (have y3 : ((c : Int) == 244) = true := by rw [beq_iff_eq]; omega) | (have y3 : ((c : Int) == 244) = false := by rw [beq_eq_false_iff_ne]; omega)
  go_enter Tryz.func87, Tryz.ntmps87
  go_wp2_with (first | (go_at_call 101; refine (tail_any s _ _ _ _ (by omega) hs (by omega) (by omega)).mono ?_; rintro e w' ⟨rfl, rfl⟩) | (go_at_call 102; refine (low_any s _ _ (by omega) (by omega)).mono ?_; rintro e w' ⟨rfl, rfl⟩))
  go_ret2
  exact ⟨ret_two (by rw [HF.out.1] <;> first | rfl | (simp; done) | (simp; omega)) (by rw [HF.out.2] <;> first | rfl | (simp; done)), rfl⟩

set_option maxRecDepth 100000 in
set_option maxHeartbeats 1000000 in
theorem first_J10 (s : ByteArray) (i c : Nat) (w : World) (hi : i < s.size) (hs : s.size ≤ 4294967296) (hc : (s[i]'hi).toNat = c) (h : 244 ≤ c) (h' : c ≤ 244) (h1a : tailB s (i + 1) 128 143 = true) (h2b : tailB s (i + 2) 128 191 = false) :
    Calls Tryz.prog 87 #[.string s, .int .i64 i] w fun e w' => e = .returned (.tuple #[.int .i64 (firstRef s i).1, .int .i64 (firstRef s i).2]) ∧ w = w' := by
  have HF : Hid ((firstRef s i).1 = (-1 : Int) ∧ (firstRef s i).2 = 1) := by
    have hcb : byteAt s i = c := by rw [byteAt_get s i hi, hc]
    unfold Hid firstRef
    simp only [hcb]
    first | (have q0 : c < 128 := by omega) | (have q0 : ¬ c < 128 := by omega)
    first | (have q4 : 194 ≤ c := by omega) | (have q4 : ¬ 194 ≤ c := by omega)
    first | (have q5 : c ≤ 223 := by omega) | (have q5 : ¬ c ≤ 223 := by omega)
    first | (have q6 : c = 240 := by omega) | (have q6 : ¬ c = 240 := by omega)
    first | (have q7 : c = 224 := by omega) | (have q7 : ¬ c = 224 := by omega)
    first | (have q8 : c = 244 := by omega) | (have q8 : ¬ c = 244 := by omega)
    first | (have q9 : c = 237 := by omega) | (have q9 : ¬ c = 237 := by omega)
    first | (have qa : 224 ≤ c := by omega) | (have qa : ¬ 224 ≤ c := by omega)
    first | (have qb : c ≤ 239 := by omega) | (have qb : ¬ c ≤ 239 := by omega)
    first | (have qc : 240 ≤ c := by omega) | (have qc : ¬ 240 ≤ c := by omega)
    first | (have qd : c ≤ 244 := by omega) | (have qd : ¬ c ≤ 244 := by omega)
    simp [*]
  have hiz : (i : Int) < (s.size : Int) := by omega
  have lh1a := tail_lt h1a
  first | (have z0 : (c : Int) < 128 := by omega) | (have z0 : ¬ (c : Int) < 128 := by omega)
  first | (have z4 : (194 : Int) ≤ c := by omega) | (have z4 : ¬ (194 : Int) ≤ c := by omega)
  first | (have z5 : (c : Int) ≤ 223 := by omega) | (have z5 : ¬ (c : Int) ≤ 223 := by omega)
  first | (have z10 : (224 : Int) ≤ c := by omega) | (have z10 : ¬ (224 : Int) ≤ c := by omega)
  first | (have z11 : (c : Int) ≤ 239 := by omega) | (have z11 : ¬ (c : Int) ≤ 239 := by omega)
  first | (have z12 : (240 : Int) ≤ c := by omega) | (have z12 : ¬ (240 : Int) ≤ c := by omega)
  first | (have z13 : (c : Int) ≤ 244 := by omega) | (have z13 : ¬ (c : Int) ≤ 244 := by omega)
  first | (have y0 : ((c : Int) == 224) = true := by rw [beq_iff_eq]; omega) | (have y0 : ((c : Int) == 224) = false := by rw [beq_eq_false_iff_ne]; omega)
  first | (have y1 : ((c : Int) == 237) = true := by rw [beq_iff_eq]; omega) | (have y1 : ((c : Int) == 237) = false := by rw [beq_eq_false_iff_ne]; omega)
  first | (have y2 : ((c : Int) == 240) = true := by rw [beq_iff_eq]; omega) | (have y2 : ((c : Int) == 240) = false := by rw [beq_eq_false_iff_ne]; omega)
  first | (have y3 : ((c : Int) == 244) = true := by rw [beq_iff_eq]; omega) | (have y3 : ((c : Int) == 244) = false := by rw [beq_eq_false_iff_ne]; omega)
  go_enter Tryz.func87, Tryz.ntmps87
  go_wp2_with (first | (go_at_call 101; refine (tail_any s _ _ _ _ (by omega) hs (by omega) (by omega)).mono ?_; rintro e w' ⟨rfl, rfl⟩) | (go_at_call 102; refine (low_any s _ _ (by omega) (by omega)).mono ?_; rintro e w' ⟨rfl, rfl⟩))
  go_ret2
  exact ⟨ret_two (by rw [HF.out.1] <;> first | rfl | (simp; done) | (simp; omega)) (by rw [HF.out.2] <;> first | rfl | (simp; done)), rfl⟩

set_option maxRecDepth 100000 in
set_option maxHeartbeats 1000000 in
theorem first_J110 (s : ByteArray) (i c : Nat) (w : World) (hi : i < s.size) (hs : s.size ≤ 4294967296) (hc : (s[i]'hi).toNat = c) (h : 244 ≤ c) (h' : c ≤ 244) (h1a : tailB s (i + 1) 128 143 = true) (h2b : tailB s (i + 2) 128 191 = true) (h3c : tailB s (i + 3) 128 191 = false) :
    Calls Tryz.prog 87 #[.string s, .int .i64 i] w fun e w' => e = .returned (.tuple #[.int .i64 (firstRef s i).1, .int .i64 (firstRef s i).2]) ∧ w = w' := by
  have HF : Hid ((firstRef s i).1 = (-1 : Int) ∧ (firstRef s i).2 = 1) := by
    have hcb : byteAt s i = c := by rw [byteAt_get s i hi, hc]
    unfold Hid firstRef
    simp only [hcb]
    first | (have q0 : c < 128 := by omega) | (have q0 : ¬ c < 128 := by omega)
    first | (have q4 : 194 ≤ c := by omega) | (have q4 : ¬ 194 ≤ c := by omega)
    first | (have q5 : c ≤ 223 := by omega) | (have q5 : ¬ c ≤ 223 := by omega)
    first | (have q6 : c = 240 := by omega) | (have q6 : ¬ c = 240 := by omega)
    first | (have q7 : c = 224 := by omega) | (have q7 : ¬ c = 224 := by omega)
    first | (have q8 : c = 244 := by omega) | (have q8 : ¬ c = 244 := by omega)
    first | (have q9 : c = 237 := by omega) | (have q9 : ¬ c = 237 := by omega)
    first | (have qa : 224 ≤ c := by omega) | (have qa : ¬ 224 ≤ c := by omega)
    first | (have qb : c ≤ 239 := by omega) | (have qb : ¬ c ≤ 239 := by omega)
    first | (have qc : 240 ≤ c := by omega) | (have qc : ¬ 240 ≤ c := by omega)
    first | (have qd : c ≤ 244 := by omega) | (have qd : ¬ c ≤ 244 := by omega)
    simp [*]
  have hiz : (i : Int) < (s.size : Int) := by omega
  have lh1a := tail_lt h1a
  have lh2b := tail_lt h2b
  first | (have z0 : (c : Int) < 128 := by omega) | (have z0 : ¬ (c : Int) < 128 := by omega)
  first | (have z4 : (194 : Int) ≤ c := by omega) | (have z4 : ¬ (194 : Int) ≤ c := by omega)
  first | (have z5 : (c : Int) ≤ 223 := by omega) | (have z5 : ¬ (c : Int) ≤ 223 := by omega)
  first | (have z10 : (224 : Int) ≤ c := by omega) | (have z10 : ¬ (224 : Int) ≤ c := by omega)
  first | (have z11 : (c : Int) ≤ 239 := by omega) | (have z11 : ¬ (c : Int) ≤ 239 := by omega)
  first | (have z12 : (240 : Int) ≤ c := by omega) | (have z12 : ¬ (240 : Int) ≤ c := by omega)
  first | (have z13 : (c : Int) ≤ 244 := by omega) | (have z13 : ¬ (c : Int) ≤ 244 := by omega)
  first | (have y0 : ((c : Int) == 224) = true := by rw [beq_iff_eq]; omega) | (have y0 : ((c : Int) == 224) = false := by rw [beq_eq_false_iff_ne]; omega)
  first | (have y1 : ((c : Int) == 237) = true := by rw [beq_iff_eq]; omega) | (have y1 : ((c : Int) == 237) = false := by rw [beq_eq_false_iff_ne]; omega)
  first | (have y2 : ((c : Int) == 240) = true := by rw [beq_iff_eq]; omega) | (have y2 : ((c : Int) == 240) = false := by rw [beq_eq_false_iff_ne]; omega)
  first | (have y3 : ((c : Int) == 244) = true := by rw [beq_iff_eq]; omega) | (have y3 : ((c : Int) == 244) = false := by rw [beq_eq_false_iff_ne]; omega)
  go_enter Tryz.func87, Tryz.ntmps87
  go_wp2_with (first | (go_at_call 101; refine (tail_any s _ _ _ _ (by omega) hs (by omega) (by omega)).mono ?_; rintro e w' ⟨rfl, rfl⟩) | (go_at_call 102; refine (low_any s _ _ (by omega) (by omega)).mono ?_; rintro e w' ⟨rfl, rfl⟩))
  all_goals first
    | (have hx : tailB s (i + 3) 128 191 = true := by assumption
       exact absurd (hx.symm.trans h3c) (by decide))
    | (go_ret2; exact ⟨ret_two (by rw [HF.out.1] <;> first | rfl | (simp; done) | (simp; omega)) (by rw [HF.out.2] <;> first | rfl | (simp; done)), rfl⟩)

set_option maxRecDepth 100000 in
set_option maxHeartbeats 1000000 in
theorem first_J111 (s : ByteArray) (i c : Nat) (w : World) (hi : i < s.size) (hs : s.size ≤ 4294967296) (hc : (s[i]'hi).toNat = c) (h : 244 ≤ c) (h' : c ≤ 244) (h1a : tailB s (i + 1) 128 143 = true) (h2b : tailB s (i + 2) 128 191 = true) (h3c : tailB s (i + 3) 128 191 = true) :
    Calls Tryz.prog 87 #[.string s, .int .i64 i] w fun e w' => e = .returned (.tuple #[.int .i64 (firstRef s i).1, .int .i64 (firstRef s i).2]) ∧ w = w' := by
  have HF : Hid ((firstRef s i).1 = ((c % 8 * 262144 + byteAt s (i + 1) % 64 * 4096 + byteAt s (i + 2) % 64 * 64 + byteAt s (i + 3) % 64 : Nat) : Int) ∧ (firstRef s i).2 = 4) := by
    have hcb : byteAt s i = c := by rw [byteAt_get s i hi, hc]
    unfold Hid firstRef
    simp only [hcb]
    first | (have q0 : c < 128 := by omega) | (have q0 : ¬ c < 128 := by omega)
    first | (have q4 : 194 ≤ c := by omega) | (have q4 : ¬ 194 ≤ c := by omega)
    first | (have q5 : c ≤ 223 := by omega) | (have q5 : ¬ c ≤ 223 := by omega)
    first | (have q6 : c = 240 := by omega) | (have q6 : ¬ c = 240 := by omega)
    first | (have q7 : c = 224 := by omega) | (have q7 : ¬ c = 224 := by omega)
    first | (have q8 : c = 244 := by omega) | (have q8 : ¬ c = 244 := by omega)
    first | (have q9 : c = 237 := by omega) | (have q9 : ¬ c = 237 := by omega)
    first | (have qa : 224 ≤ c := by omega) | (have qa : ¬ 224 ≤ c := by omega)
    first | (have qb : c ≤ 239 := by omega) | (have qb : ¬ c ≤ 239 := by omega)
    first | (have qc : 240 ≤ c := by omega) | (have qc : ¬ 240 ≤ c := by omega)
    first | (have qd : c ≤ 244 := by omega) | (have qd : ¬ c ≤ 244 := by omega)
    simp [*]
  have hiz : (i : Int) < (s.size : Int) := by omega
  have lh1a := tail_lt h1a
  have lh2b := tail_lt h2b
  have lh3c := tail_lt h3c
  first | (have z0 : (c : Int) < 128 := by omega) | (have z0 : ¬ (c : Int) < 128 := by omega)
  first | (have z4 : (194 : Int) ≤ c := by omega) | (have z4 : ¬ (194 : Int) ≤ c := by omega)
  first | (have z5 : (c : Int) ≤ 223 := by omega) | (have z5 : ¬ (c : Int) ≤ 223 := by omega)
  first | (have z10 : (224 : Int) ≤ c := by omega) | (have z10 : ¬ (224 : Int) ≤ c := by omega)
  first | (have z11 : (c : Int) ≤ 239 := by omega) | (have z11 : ¬ (c : Int) ≤ 239 := by omega)
  first | (have z12 : (240 : Int) ≤ c := by omega) | (have z12 : ¬ (240 : Int) ≤ c := by omega)
  first | (have z13 : (c : Int) ≤ 244 := by omega) | (have z13 : ¬ (c : Int) ≤ 244 := by omega)
  first | (have y0 : ((c : Int) == 224) = true := by rw [beq_iff_eq]; omega) | (have y0 : ((c : Int) == 224) = false := by rw [beq_eq_false_iff_ne]; omega)
  first | (have y1 : ((c : Int) == 237) = true := by rw [beq_iff_eq]; omega) | (have y1 : ((c : Int) == 237) = false := by rw [beq_eq_false_iff_ne]; omega)
  first | (have y2 : ((c : Int) == 240) = true := by rw [beq_iff_eq]; omega) | (have y2 : ((c : Int) == 240) = false := by rw [beq_eq_false_iff_ne]; omega)
  first | (have y3 : ((c : Int) == 244) = true := by rw [beq_iff_eq]; omega) | (have y3 : ((c : Int) == 244) = false := by rw [beq_eq_false_iff_ne]; omega)
  go_enter Tryz.func87, Tryz.ntmps87
  go_wp2_with (first | (go_at_call 101; refine (tail_any s _ _ _ _ (by omega) hs (by omega) (by omega)).mono ?_; rintro e w' ⟨rfl, rfl⟩) | (go_at_call 102; refine (low_any s _ _ (by omega) (by omega)).mono ?_; rintro e w' ⟨rfl, rfl⟩))
  all_goals first
    | (have hx : tailB s (i + 3) 128 191 = false := by assumption
       exact absurd (hx.symm.trans h3c) (by decide))
    | (go_ret2; exact ⟨ret_two (by rw [HF.out.1] <;> first | rfl | (simp; done) | (simp; omega)) (by rw [HF.out.2] <;> first | rfl | (simp; done)), rfl⟩)

theorem rfirst_any (s : ByteArray) (i : Nat) (w : World) (hi : i < s.size) (hs : s.size ≤ 4294967296) :
    Calls Tryz.prog 87 #[.string s, .int .i64 i] w fun e w' => e = .returned (.tuple #[.int .i64 (decR s i), .int .i64 (decN s i)]) ∧ w = w' := by
  have hd := first_is s i
  have h1 : (firstRef s i).1 = decR s i := by rw [hd]
  have h2 : (firstRef s i).2 = decN s i := by rw [hd]
  rw [← h1, ← h2]
  clear hd h1 h2
  obtain ⟨c, hc⟩ : ∃ c, (s[i]'hi).toNat = c := ⟨_, rfl⟩
  have hlt := byteAt_lt s i
  rw [byteAt_get s i hi, hc] at hlt
  rcases (show c < 128 ∨ (128 ≤ c ∧ c ≤ 193) ∨ (194 ≤ c ∧ c ≤ 223) ∨ (224 ≤ c ∧ c ≤ 224) ∨ (225 ≤ c ∧ c ≤ 236) ∨ (237 ≤ c ∧ c ≤ 237) ∨ (238 ≤ c ∧ c ≤ 239) ∨ (240 ≤ c ∧ c ≤ 240) ∨ (241 ≤ c ∧ c ≤ 243) ∨ (244 ≤ c ∧ c ≤ 244) ∨ (245 ≤ c ∧ c ≤ 255) by omega) with h | ⟨h, h'⟩ | ⟨h, h'⟩ | ⟨h, h'⟩ | ⟨h, h'⟩ | ⟨h, h'⟩ | ⟨h, h'⟩ | ⟨h, h'⟩ | ⟨h, h'⟩ | ⟨h, h'⟩ | ⟨h, h'⟩
  · exact first_A s i c w hi hs hc h
  · cases b1 : tailB s (i + 1) 128 191
    · exact first_B0 s i c w hi hs hc h h' b1
    · cases b2 : tailB s (i + 2) 128 191
      · exact first_B10 s i c w hi hs hc h h' b1 b2
      · exact first_B11 s i c w hi hs hc h h' b1 b2
  · cases b1 : tailB s (i + 1) 128 191
    · exact first_C0 s i c w hi hs hc h h' b1
    · exact first_C1 s i c w hi hs hc h h' b1
  · cases b1 : tailB s (i + 1) 160 191
    · exact first_D0 s i c w hi hs hc h h' b1
    · cases b2 : tailB s (i + 2) 128 191
      · exact first_D10 s i c w hi hs hc h h' b1 b2
      · exact first_D11 s i c w hi hs hc h h' b1 b2
  · cases b1 : tailB s (i + 1) 128 191
    · exact first_E0 s i c w hi hs hc h h' b1
    · cases b2 : tailB s (i + 2) 128 191
      · exact first_E10 s i c w hi hs hc h h' b1 b2
      · exact first_E11 s i c w hi hs hc h h' b1 b2
  · cases b1 : tailB s (i + 1) 128 159
    · exact first_F0 s i c w hi hs hc h h' b1
    · cases b2 : tailB s (i + 2) 128 191
      · exact first_F10 s i c w hi hs hc h h' b1 b2
      · exact first_F11 s i c w hi hs hc h h' b1 b2
  · cases b1 : tailB s (i + 1) 128 191
    · exact first_G0 s i c w hi hs hc h h' b1
    · cases b2 : tailB s (i + 2) 128 191
      · exact first_G10 s i c w hi hs hc h h' b1 b2
      · exact first_G11 s i c w hi hs hc h h' b1 b2
  · cases b1 : tailB s (i + 1) 144 191
    · exact first_H0 s i c w hi hs hc h h' b1
    · cases b2 : tailB s (i + 2) 128 191
      · exact first_H10 s i c w hi hs hc h h' b1 b2
      · cases b3 : tailB s (i + 3) 128 191
        · exact first_H110 s i c w hi hs hc h h' b1 b2 b3
        · exact first_H111 s i c w hi hs hc h h' b1 b2 b3
  · cases b1 : tailB s (i + 1) 128 191
    · exact first_I0 s i c w hi hs hc h h' b1
    · cases b2 : tailB s (i + 2) 128 191
      · exact first_I10 s i c w hi hs hc h h' b1 b2
      · cases b3 : tailB s (i + 3) 128 191
        · exact first_I110 s i c w hi hs hc h h' b1 b2 b3
        · exact first_I111 s i c w hi hs hc h h' b1 b2 b3
  · cases b1 : tailB s (i + 1) 128 143
    · exact first_J0 s i c w hi hs hc h h' b1
    · cases b2 : tailB s (i + 2) 128 191
      · exact first_J10 s i c w hi hs hc h h' b1 b2
      · cases b3 : tailB s (i + 3) 128 191
        · exact first_J110 s i c w hi hs hc h h' b1 b2 b3
        · exact first_J111 s i c w hi hs hc h h' b1 b2 b3
  · cases b1 : tailB s (i + 1) 128 191
    · exact first_K0 s i c w hi hs hc h h' b1
    · cases b2 : tailB s (i + 2) 128 191
      · exact first_K10 s i c w hi hs hc h h' b1 b2
      · exact first_K11 s i c w hi hs hc h h' b1 b2

end Go.Proofs.YthlofmnmacpogaaGreatDoor
