/- Contracts of awake and BitsSets of warderlaw14. -/
import Derived.Test.YtbhmimegcnfjcaaBitsM
namespace Go.Proofs.Ytbhmimegcnfjcaa
open Go.RowKit

/-- a written list in new memory reads -/
theorem Reads.lit (w : World) (us : Array Value) (e : TypeId) (n cap : Nat) (hn : n = us.size) (hm : n ≤ maxLen) : Reads (w.alloc (.cells us e)) (.slice (some ⟨w.heap.size, 0, none⟩) n cap) us.toList := by
  refine .inr ⟨w.heap.size, 0, cap, by simp [hn], by simp, by simpa [hn] using hm, fun t x hx => ?_⟩
  rw [World.cell?_alloc_at _ _ _ _ rfl, Nat.zero_add]
  simpa using hx

theorem Reads.keep {w w' : World} {v : Value} {xs : List Value} (h : Reads w v xs) (hb : Below w.heap.size w w') : Reads w' v xs := h.below (Nat.le_refl _) hb

theorem ofL_02 : ofL [0, 2] = 5 := by decide +kernel
theorem listZ_5 : listZ 5 31 = [0, 2] := by decide +kernel
theorem first_3 : firstZ 3 = 7 := by decide +kernel

set_option maxHeartbeats 1000000 in
theorem awake14 (w : World) :
    Calls Try.prog 13 #[] w fun e w' => e = .returned (.bool true) ∧ Below w.heap.size w w' := by
  have H1 := Lib.hid ofL_02
  have H2 := Lib.hid listZ_5
  have H3 := Lib.hid first_3
  have hm : 2 ≤ maxLen := by unfold maxLen; omega
  have R1 : Hid (Reads (w.alloc (.cells #[.int .i64 0, .int .i64 2] 3)) (.slice (some ⟨w.heap.size, 0, none⟩) 2 2) (ints [0, 2])) := Reads.lit w #[.int .i64 0, .int .i64 2] 3 2 2 rfl hm
  have hB1 : Below w.heap.size w (w.alloc (.cells #[.int .i64 0, .int .i64 2] 3)) := (Below.refl _ _).alloc (Nat.le_refl _) _
  go_enter Try.func13, Try.ntmps13
  go_wp2_with fail
  refine (of_any _ [0, 2] _ R1.out).mono ?_
  rintro e w1 ⟨rfl, rfl⟩
  rw [H1.out]
  go_wp2_with fail
  refine (list_any 5 _).mono ?_
  rintro e w2 ⟨v, rfl, hown, hb⟩
  rw [H2.out] at hown
  have hB2 := hB1.trans (hb.mono (by simp))
  have HO := Lib.hid (Reads.of_owns hown); clear hown
  have HB := Lib.hid hB2; clear hB2 hB1 hb
  have R2 : Hid (Reads (w2.alloc (.cells #[.int .i64 0, .int .i64 2] 3)) (.slice (some ⟨w2.heap.size, 0, none⟩) 2 2) (ints [0, 2])) := Reads.lit w2 #[.int .i64 0, .int .i64 2] 3 2 2 rfl hm
  have R3 : Hid (Reads (w2.alloc (.cells #[.int .i64 0, .int .i64 2] 3)) v (ints [0, 2])) := HO.out.keep ((Below.refl _ _).alloc (Nat.le_refl _) _)
  go_wp2_with fail
  refine (same_eq _ _ [0, 2] _ R3.out R2.out).mono ?_
  rintro e w3 ⟨rfl, hb3⟩
  have HB3 : Hid (Below w.heap.size w w3) := ((HB.out.alloc HB.out.size _).trans (hb3.mono (by have := HB.out.size; simp; omega)))
  clear hb3
  go_wp2_with fail
  refine (first_any 3 _).mono ?_
  rintro e w' ⟨rfl, rfl⟩
  rw [H3.out]
  go_wp2
  go_ret
  exact ⟨rfl, HB3.out⟩

set_option maxHeartbeats 1000000 in
theorem bitsSets_any (s i : Int) (w : World) (hs0 : -9223372036854775808 ≤ s) (hs1 : s ≤ 9223372036854775807) :
    Calls Try.prog 4 #[.int .i64 s, .int .i64 i] w fun e w' => e = .returned (.bool true) ∧ Below w.heap.size w w' := by
  go_enter Try.func4, Try.ntmps4
  go_wp2_with fail
  refine (has_any s i _).mono ?_
  rintro e w' ⟨rfl, rfl⟩
  go_wp2_with fail
  refine (rhas_any s i _ hs0 hs1).mono ?_
  rintro e w' ⟨rfl, rfl⟩
  go_wp2_with fail
  refine (with_any s i _).mono ?_
  rintro e w' ⟨rfl, rfl⟩
  go_wp2_with fail
  refine (put_any s i true _ hs0 hs1).mono ?_
  rintro e w1 ⟨rfl, hb1⟩
  go_wp2_with fail
  refine (without_any s i _).mono ?_
  rintro e w' ⟨rfl, rfl⟩
  go_wp2_with fail
  refine (put_any s i false _ hs0 hs1).mono ?_
  rintro e w2 ⟨rfl, hb2⟩
  go_wp2_with fail
  refine (awake14 _).mono ?_
  rintro e w3 ⟨rfl, hb3⟩
  have hB := hb1.trans ((hb2.trans (hb3.mono hb2.size)).mono hb1.size)
  clear hb1 hb2 hb3
  go_wp2
  go_ret
  exact ⟨rfl, hB⟩

theorem ofL_bd (l : List Int) : 0 ≤ ofL l ∧ ofL l < 2147483648 := by
  rw [ofL_ofB]; have := ofB_lt fun j => decide ((j : Int) ∈ l); omega

set_option maxHeartbeats 2000000 in
theorem bitsLists_any (a b : Int) (v : Value) (l : List Int) (w : World) (ha0 : -9223372036854775808 ≤ a) (ha1 : a ≤ 9223372036854775807) (hb0 : -9223372036854775808 ≤ b) (hb1 : b ≤ 9223372036854775807) (hv : Reads w v (ints l)) :
    Calls Try.prog 3 #[.int .i64 a, .int .i64 b, v] w fun e w' => e = .returned (.bool true) ∧ Below w.heap.size w w' := by
  have hsh : ∃ ad cap, v = .slice ad l.length cap := by
    rcases hv with ⟨ad, cap, rfl, h0⟩ | ⟨b', off, cap, rfl, _⟩
    · exact ⟨ad, cap, by rw [show l = [] by simpa [ints] using h0]; rfl⟩
    · exact ⟨_, cap, by rw [ints_len]⟩
  have hcell : ∀ k x, l[k]? = some x → ∃ b' off cap, v = .slice (some ⟨b', off, none⟩) l.length cap ∧ b' < w.heap.size ∧ w.cell? ⟨b', off + k, none⟩ = some (.int .i64 x) := by
    intro k x hx
    rcases hv with ⟨ad, cap, rfl, h0⟩ | ⟨b', off, cap, rfl, hlt, hm, hc⟩
    · rw [show l = [] by simpa [ints] using h0] at hx; simp at hx
    · exact ⟨b', off, cap, by rw [ints_len], hlt, hc k _ (by simp [ints, hx])⟩
  have HV := Lib.hid hv; clear hv
  have HC := Lib.hid hcell; clear hcell
  obtain ⟨ad, cap, rfl⟩ := hsh
  obtain ⟨n, hn⟩ : ∃ n, n = l.length := ⟨_, rfl⟩
  rw [← hn] at HV HC ⊢
  have HN := Lib.hid hn; clear hn
  by_cases h60 : 60 < n
  · go_enter Try.func3, Try.ntmps3
    go_wp2_with (go_at_call 13; refine (awake14 _).mono ?_; rintro e w1 ⟨rfl, hb⟩)
    go_ret
    exact ⟨rfl, hb⟩
  · have hz : ofL (l.take 0) = 0 := rfl
    have HZ := Lib.hid hz; clear hz
    go_enter Try.func3, Try.ntmps3
    go_wp2
    go_loopw [7, 8] (fun s i wr => ∃ (k : Nat) (q : Int), k ≤ n ∧ i = .int .i64 k ∧ s = .int .i64 q ∧ 0 ≤ q ∧ q < 2147483648 ∧ Hid (q = ofL (l.take k)) ∧ Below w.heap.size w wr) (fun _ i _ => n - (intOf i).toNat)
    case atStart => exact ⟨0, 0, Nat.zero_le _, rfl, rfl, by omega, by omega, rfl, Below.refl _ _⟩
    case round =>
      obtain ⟨k, q, hk, rfl, rfl, hq0, hq1, HQ, hb⟩ := hrel
      by_cases hlt : k < n
      · obtain ⟨x, hx⟩ : ∃ x, l[k]? = some x := ⟨_, List.getElem?_eq_getElem (by rw [← HN.out]; exact hlt)⟩
        obtain ⟨b', off, cap', hv', hlt', hcx⟩ := HC.out k x hx
        simp only [Value.slice.injEq, true_and] at hv'
        obtain ⟨rfl, rfl⟩ := hv'
        have hcx' : wr.cell? ⟨b', off + k, none⟩ = some (.int .i64 x) := (hb.cell (p := ⟨b', off + k, none⟩) hlt').trans hcx
        have HS : Hid (putZ q x true = ofL (l.take (k + 1))) := by unfold Hid; rw [List.take_add_one, hx, HQ.out]; exact (ofL_snoc _ _).symm
        have hp := putZ_bd q x true
        have HP := Lib.hid hp; clear hp
        clear hx hcx
        go_wp2_with fail
        refine (put_any q x true _ (by omega) (by omega)).mono ?_
        rintro e w1 ⟨rfl, hb1⟩
        have hb2 := hb.trans (hb1.mono hb.size)
        clear hb1 hcx'
        go_wp2
        go_roundw
        case rel => exact ⟨k + 1, _, by omega, by go_num, rfl, HP.out.1, HP.out.2, HS, hb2⟩
        case measure => simp [intOf]; omega
      · obtain rfl : n = k := by omega
        have HE : Hid (q = ofL l) := by unfold Hid; rw [HQ.out, HN.out, List.take_length]
        have HV' : Hid (Reads wr (.slice ad n cap) (ints l)) := HV.out.keep hb
        have HB := Lib.hid hb; clear hb
        clear hk hlt h60
        go_wp2_with fail
        refine (list_any a _).mono ?_
        rintro e w1 ⟨v1, rfl, ho1, hb1⟩
        have R1 := Lib.hid (Reads.of_owns ho1); clear ho1
        have HB1 := Lib.hid hb1; clear hb1
        go_wp2_with fail
        refine (rlist_any a _ ha0 ha1).mono ?_
        rintro e w2 ⟨v2, rfl, ho2, hb2⟩
        have R2 := Lib.hid (Reads.of_owns ho2); clear ho2
        have HB2 : Hid (Below wr.heap.size wr w2) := HB1.out.trans (hb2.mono HB1.out.size)
        have R1' : Hid (Reads w2 v1 (ints (listZ a 31))) := R1.out.keep hb2
        clear hb2
        go_wp2_with fail
        refine (same_eq _ _ _ _ R1'.out R2.out).mono ?_
        rintro e w3 ⟨rfl, hb3⟩
        have HB3 : Hid (Below wr.heap.size wr w3) := HB2.out.trans (hb3.mono HB2.out.size)
        clear hb3
        go_wp2_with fail
        refine (count_any a _).mono ?_
        rintro e w4 ⟨rfl, hb4⟩
        have HB4 : Hid (Below wr.heap.size wr w4) := HB3.out.trans (hb4.mono HB3.out.size)
        clear hb4
        go_wp2_with fail
        refine (rlist_any a _ ha0 ha1).mono ?_
        rintro e w5 ⟨v5, rfl, ho5, hb5⟩
        obtain ⟨ad5, cap5, rfl⟩ : ∃ ad cap, v5 = .slice ad (listZ a 31).length cap := by
          rcases ho5.2 with ⟨rfl, h0⟩ | ⟨g, cap, cur, rfl, _⟩
          · exact ⟨none, 0, by rw [h0]⟩
          · exact ⟨_, _, rfl⟩
        have HB5 : Hid (Below wr.heap.size wr w5) := HB4.out.trans (hb5.mono HB4.out.size)
        clear ho5 hb5
        go_wp2_with fail
        refine (within_any a b _).mono ?_
        rintro e w' ⟨rfl, rfl⟩
        go_wp2_with fail
        refine (rwithin_any a b _ ha0 ha1 hb0 hb1).mono ?_
        rintro e w' ⟨rfl, rfl⟩
        go_wp2_with fail
        refine (of_any _ l _ (HV'.out.keep HB5.out)).mono ?_
        rintro e w' ⟨rfl, rfl⟩
        rw [← HE.out]
        go_wp2_with fail
        refine (awake14 _).mono ?_
        rintro e w6 ⟨rfl, hb6⟩
        have HB6 : Hid (Below w.heap.size w w6) := HB.out.trans ((HB5.out.trans (hb6.mono HB5.out.size)).mono HB.out.size)
        clear hb6
        go_wp2
        go_ret
        exact ⟨rfl, HB6.out⟩

/- sets of so many numbers -/
theorem listZ_first (n : Int) : ((listZ (firstZ n) 31).length : Int) = max 0 (min n 31) := by
  have hc := clamp_le n
  have key : ∀ k, k ≤ 31 → (listZ (firstZ n) k).length = min k (clamp n) := by
    intro k
    induction k with
    | zero => intro _; simp [listZ]
    | succ k ih =>
      intro hk
      have e := hasN_first n k (by omega)
      have ih' := ih (by omega)
      unfold listZ at *
      rw [List.range_succ, List.filter_append, List.map_append, List.length_append, ih']
      by_cases h : k < clamp n
      · simp [e, h]; omega
      · simp [e, h]; omega
  rw [key 31 (by omega)]
  unfold clamp at *
  omega

theorem within_first (n m : Int) : withinB (firstZ n) (firstZ m) = decide (min n 31 ≤ max 0 m) := by
  have hn := clamp_le n
  have hm := clamp_le m
  rw [Bool.eq_iff_iff]
  unfold withinB
  rw [List.all_eq_true, decide_eq_true_eq]
  constructor
  · intro h
    by_cases hc : clamp n ≤ clamp m
    · unfold clamp at *; omega
    · have := h (clamp m) (by simp; omega)
      rw [hasN_first n _ (by omega), hasN_first m _ (by omega)] at this
      simp at this; omega
  · intro h j hj
    have hj' : j < 31 := by simpa using hj
    rw [hasN_first n j hj', hasN_first m j hj']
    have : clamp n ≤ clamp m := by unfold clamp; omega
    by_cases h1 : j < clamp n
    · simp; omega
    · simp [h1]

theorem has_first (n : Int) : hasB (firstZ n) 3 = decide (3 < n) := by
  unfold hasB
  rw [if_pos (by omega)]
  rw [show (3 : Int).toNat = 3 from rfl, hasN_first n 3 (by omega)]
  rw [Bool.eq_iff_iff, decide_eq_true_eq, decide_eq_true_eq]
  unfold clamp; omega

theorem of_listZ (s : Int) : ofL (listZ s 31) = putZ (putZ s 31 true) (-1) false := by
  rw [putZ_out _ (-1) false (by omega), putZ_out s 31 true (by omega), ofL_ofB]
  have e : lo (lo s : Int) = lo s := by unfold lo; omega
  rw [e, lo_ofB]
  rw [ofB_congr (fun j => decide ((j : Int) ∈ listZ s 31)) (hasN s) (by
    intro j hj
    unfold listZ
    rw [Bool.eq_iff_iff, decide_eq_true_eq]
    simp only [List.mem_map, List.mem_filter, List.mem_range]
    constructor
    · rintro ⟨a, ⟨_, h2⟩, h3⟩
      have : a = j := by omega
      subst this; exact h2
    · intro h; exact ⟨j, ⟨hj, h⟩, rfl⟩)]

set_option maxHeartbeats 8000000 in
theorem bitsBack_any (s n m : Int) (w : World) :
    Calls Try.prog 5 #[.int .i64 s, .int .i64 n, .int .i64 m] w fun e w' => e = .returned (.bool true) ∧ Below w.heap.size w w' := by
  have H0 := Lib.hid (of_listZ s)
  have HL0 := listZ_first n
  have HW0 := within_first n m
  have HH0 := has_first n
  rcases (show n ≤ 0 ∨ (0 < n ∧ n ≤ 31) ∨ 31 < n by omega) with h | ⟨h, h'⟩ | h <;> rcases (show m ≤ 0 ∨ (0 < m ∧ n ≤ m ∧ 31 ≤ m) ∨ (0 < m ∧ n ≤ m ∧ m < 31) ∨ (0 < m ∧ m < n ∧ 31 ≤ m) ∨ (0 < m ∧ m < n ∧ m < 31) by omega) with hm | ⟨hm, hm', hm''⟩ | ⟨hm, hm', hm''⟩ | ⟨hm, hm', hm''⟩ | ⟨hm, hm', hm''⟩ <;> by_cases h3 : 3 < n
  all_goals first
    | (exfalso; omega)
    | (first | rw [show max 0 (min n 31) = 0 by omega] at HL0 | rw [show max 0 (min n 31) = n by omega] at HL0 | rw [show max 0 (min n 31) = 31 by omega] at HL0
       first | rw [decide_eq_true (show min n 31 ≤ max 0 m by omega)] at HW0 | rw [decide_eq_false (show ¬ min n 31 ≤ max 0 m by omega)] at HW0
       first | rw [decide_eq_true h3] at HH0 | rw [decide_eq_false h3] at HH0
       have HL := Lib.hid HL0
       have HW := Lib.hid HW0
       have HH := Lib.hid HH0
       clear HL0 HW0 HH0
       go_enter Try.func5, Try.ntmps5
       go_wp2_with fail
       refine (first_any n _).mono ?_
       rintro e w' ⟨rfl, rfl⟩
       go_wp2_with fail
       refine (first_any m _).mono ?_
       rintro e w' ⟨rfl, rfl⟩
       go_wp2_with fail
       refine (list_any s _).mono ?_
       rintro e w1 ⟨v1, rfl, ho1, hb1⟩
       have R1 := Lib.hid (Reads.of_owns ho1)
       clear ho1
       have HB1 := Lib.hid hb1
       clear hb1
       go_wp2_with fail
       refine (of_any _ _ _ R1.out).mono ?_
       rintro e w' ⟨rfl, rfl⟩
       rw [H0.out]
       go_wp2_with fail
       refine (with_any s 31 _).mono ?_
       rintro e w' ⟨rfl, rfl⟩
       go_wp2_with fail
       refine (without_any _ (-1) _).mono ?_
       rintro e w' ⟨rfl, rfl⟩
       go_wp2_with fail
       refine (count_any _ _).mono ?_
       rintro e w2 ⟨rfl, hb2⟩
       rw [HL.out]
       have HB2 : Hid (Below w.heap.size w w2) := HB1.out.trans (hb2.mono HB1.out.size)
       clear hb2
       go_wp2_with fail
       refine (within_any _ _ _).mono ?_
       rintro e w' ⟨rfl, rfl⟩
       rw [HW.out]
       go_wp2_with fail
       refine (has_any _ 3 _).mono ?_
       rintro e w' ⟨rfl, rfl⟩
       rw [HH.out]
       go_wp2_with fail
       refine (awake14 _).mono ?_
       rintro e w3 ⟨rfl, hb3⟩
       have HB3 : Hid (Below w.heap.size w w3) := HB2.out.trans (hb3.mono HB2.out.size)
       clear hb3
       go_wp2
       go_ret
       exact ⟨ret_bool (by first | rfl | (simp; omega)), HB3.out⟩)

end Go.Proofs.Ytbhmimegcnfjcaa
