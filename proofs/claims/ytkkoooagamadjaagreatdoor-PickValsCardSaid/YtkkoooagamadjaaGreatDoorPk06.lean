/- Plain laws of sets of 31 numbers: the words of the machine, lists of truths, lists of numbers; no program in sight. Contracts of the functions Has, With, Without of package bits and Has of warderref14, for all whole numbers of 64 bits. Contracts of List of bits and warderref14, and of In and Sum of warderref14. -/
import Derived.WalkKit
import Derived.Laws.BitsAllLaws
import Derived.Test.YtkkoooagamadjaaGreatDoorPk01

namespace Go.Proofs.YtkkoooagamadjaaGreatDoor
open Go.RowKit

/-- the number of a list of truths -/
def sumB : List Bool → Nat
  | [] => 0
  | b :: r => (if b then 1 else 0) + 2 * sumB r

theorem sumB_lt (l : List Bool) : sumB l < 2 ^ l.length := by
  induction l with
  | nil => simp [sumB]
  | cons b r ih => simp only [sumB, List.length_cons, Nat.pow_succ]; split <;> omega

theorem sumB_bit (l : List Bool) (j : Nat) : (sumB l).testBit j = l.getD j false := by
  induction l generalizing j with
  | nil => simp [sumB]
  | cons b r ih =>
    cases j with
    | zero => cases b <;> simp [sumB, Nat.testBit_zero] <;> omega
    | succ j =>
      rw [Nat.testBit_succ]
      have h : sumB (b :: r) / 2 = sumB r := by simp only [sumB]; split <;> omega
      rw [h, ih]; simp

theorem sumB_snoc (l : List Bool) (b : Bool) : sumB (l ++ [b]) = sumB l + (if b then 2 ^ l.length else 0) := by
  induction l with
  | nil => cases b <;> simp [sumB]
  | cons c r ih =>
    simp only [List.cons_append, sumB, ih, List.length_cons, Nat.pow_succ]
    cases b <;> simp <;> omega

/-- is a number in a set? -/
def hasN (s : Int) (j : Nat) : Bool := s / 2 ^ j % 2 == 1
def hasB (s i : Int) : Bool := if 0 ≤ i ∧ i ≤ 30 then hasN s i.toNat else false

def ofB (f : Nat → Bool) : Nat := sumB ((List.range 31).map f)

theorem ofB_lt (f : Nat → Bool) : ofB f < 2147483648 := by
  have := sumB_lt ((List.range 31).map f)
  simpa [ofB] using this

theorem ofB_bit (f : Nat → Bool) (j : Nat) : (ofB f).testBit j = (decide (j < 31) && f j) := by
  unfold ofB
  rw [sumB_bit, List.getD_eq_getElem?_getD]
  by_cases h : j < 31
  · simp [h]
  · simp [h]

theorem ofB_congr (f g : Nat → Bool) (h : ∀ j, j < 31 → f j = g j) : ofB f = ofB g := by
  unfold ofB
  rw [List.map_congr_left]
  intro a ha
  exact h a (by simpa using ha)

theorem eq_ofB (n : Nat) (h : n < 2147483648) (f : Nat → Bool) (hf : ∀ j, j < 31 → n.testBit j = f j) : n = ofB f := by
  apply Nat.eq_of_testBit_eq
  intro j
  rw [ofB_bit]
  by_cases hj : j < 31
  · simp [hj, hf j hj]
  · simp only [hj, decide_false, Bool.false_and]
    apply Nat.testBit_lt_two_pow
    exact Nat.lt_of_lt_of_le h (by have := Nat.pow_le_pow_right (n := 2) (by omega) (show 31 ≤ j by omega); simpa using this)

def lo (s : Int) : Nat := (s % 2147483648).toNat

theorem lo_lt (s : Int) : lo s < 2147483648 := by unfold lo; omega

theorem lo_bit (s : Int) (j : Nat) (h : j < 31) : (lo s).testBit j = hasN s j := by
  unfold hasN lo
  rw [Nat.testBit_eq_decide_div_mod_eq]
  obtain ⟨d, hd⟩ : ∃ d, 31 = j + (d + 1) := ⟨30 - j, by omega⟩
  have hp : (2147483648 : Int) = 2 ^ j * (2 * 2 ^ d) := by
    have : (2147483648 : Int) = 2 ^ 31 := by decide
    rw [this, hd, Int.pow_add, Int.pow_succ]; congr 1; exact Int.mul_comm _ _
  have hm : 0 ≤ s % 2147483648 := Int.emod_nonneg _ (by decide)
  have e1 : s = s % 2147483648 + 2 ^ j * (2 * (2 ^ d * (s / 2147483648))) := by
    have := Int.emod_add_mul_ediv s 2147483648
    conv => lhs; rw [← this]
    congr 1
    conv => lhs; rw [hp]
    rw [Int.mul_assoc, Int.mul_assoc]; rw [← hp]
  have hpos : (0 : Int) < 2 ^ j := Int.pow_pos (by decide)
  have e2 : s / 2 ^ j = s % 2147483648 / 2 ^ j + 2 * (2 ^ d * (s / 2147483648)) := by
    conv => lhs; rw [e1]
    exact Int.add_mul_ediv_left _ _ (by omega)
  have e3 : s / 2 ^ j % 2 = s % 2147483648 / 2 ^ j % 2 := by rw [e2]; omega
  rw [e3]
  obtain ⟨n, hn⟩ := Int.eq_ofNat_of_zero_le hm
  rw [hn]
  have e4 : ((n : Int) / 2 ^ j % 2) = ((n / 2 ^ j % 2 : Nat) : Int) := by
    rw [Int.natCast_emod, Int.natCast_ediv]; simp
  simp only [Int.toNat_natCast]
  rw [e4]
  rw [Bool.eq_iff_iff]; simp; omega

theorem lo_ofB (s : Int) : lo s = ofB (hasN s) := eq_ofB _ (lo_lt s) _ fun j hj => lo_bit s j hj

theorem hasN_ofB (f : Nat → Bool) (j : Nat) (h : j < 31) : hasN (ofB f) j = f j := by
  have e : lo (ofB f : Int) = ofB f := by unfold lo; have := ofB_lt f; omega
  rw [← lo_bit _ j h, e, ofB_bit]; simp [h]

/-- a set in which a number is, or is not -/
def putZ (s i : Int) (is : Bool) : Int := (ofB fun j => if (j : Int) = i then is else hasN s j : Nat)

theorem putZ_bd (s i : Int) (is : Bool) : 0 ≤ putZ s i is ∧ putZ s i is < 2147483648 := by
  unfold putZ
  have := ofB_lt fun j => if (j : Int) = i then is else hasN s j
  omega

theorem putZ_out (s i : Int) (is : Bool) (h : i < 0 ∨ 30 < i) : putZ s i is = lo s := by
  unfold putZ
  rw [lo_ofB, ofB_congr _ (hasN s)]
  intro j hj
  rw [if_neg (by omega)]

theorem hasB_putZ (s i k : Int) (is : Bool) : hasB (putZ s i is) k = if 0 ≤ k ∧ k ≤ 30 then (if k = i then is else hasB s k) else false := by
  unfold hasB putZ
  by_cases h : 0 ≤ k ∧ k ≤ 30
  · simp only [h, and_self, if_true]
    rw [hasN_ofB _ _ (by omega)]
    have : ((k.toNat : Nat) : Int) = k := by omega
    rw [this]
  · simp [h]

/- the machine's words -/
theorem wrap_i64_in (n : Int) (h0 : -9223372036854775808 ≤ n) (h1 : n < 9223372036854775808) : IntKind.i64.wrap n = n := by
  have := IntWalk.i64_in n ⟨by omega, by omega⟩
  exact this

theorem ofInt64_nat (n : Nat) (h : n < 9223372036854775808) : (BitVec.ofInt 64 (n : Int)).toNat = n := by
  rw [BitVec.ofInt_natCast, BitVec.toNat_ofNat]; exact Nat.mod_eq_of_lt (by omega)

theorem ofInt64_toNat (s : Int) : (BitVec.ofInt 64 s).toNat = (s % 18446744073709551616).toNat := by
  rw [BitVec.toNat_ofInt, show ((2 ^ 64 : Nat) : Int) = 18446744073709551616 from by decide]

theorem and_nat (s : Int) (c : Nat) (hc : c < 9223372036854775808) : bits .and .i64 s (c : Int) = (((s % 18446744073709551616).toNat &&& c : Nat) : Int) := by
  show IntKind.i64.wrap ((BitVec.ofInt 64 s &&& BitVec.ofInt 64 (c : Int)).toNat : Int) = _
  rw [BitVec.toNat_and, ofInt64_toNat, ofInt64_nat c hc]
  have : (s % 18446744073709551616).toNat &&& c ≤ c := Nat.and_le_right
  exact wrap_i64_in _ (by omega) (by omega)

theorem and_all (s : Int) : bits .and .i64 s 2147483647 = (lo s : Int) := by
  have h := and_nat s 2147483647 (by omega)
  rw [show ((2147483647 : Nat) : Int) = 2147483647 from rfl] at h
  rw [h, show (2147483647 : Nat) = 2 ^ 31 - 1 from rfl, Nat.and_two_pow_sub_one_eq_mod]
  unfold lo
  simp only [Nat.reducePow]
  congr 1
  omega

theorem and_one (s : Int) : bits .and .i64 s 1 = s % 2 := by
  have h := and_nat s 1 (by omega)
  rw [show ((1 : Nat) : Int) = 1 from rfl] at h
  rw [h, Nat.and_one_is_mod]
  omega

theorem or_nat (a b : Nat) (ha : a < 2147483648) (hb : b < 2147483648) : bits .or .i64 (a : Int) (b : Int) = ((a ||| b : Nat) : Int) := by
  show IntKind.i64.wrap ((BitVec.ofInt 64 (a : Int) ||| BitVec.ofInt 64 (b : Int)).toNat : Int) = _
  rw [BitVec.toNat_or, ofInt64_nat a (by omega), ofInt64_nat b (by omega)]
  have : a ||| b < 2 ^ 31 := Nat.or_lt_two_pow (by omega) (by omega)
  exact wrap_i64_in _ (by omega) (by omega)

theorem andNot_nat (a b : Nat) (ha : a < 2147483648) (f : Nat → Bool) (hb : b < 9223372036854775808) (hf : ∀ j, j < 31 → f j = (a.testBit j && !b.testBit j)) : bits .andNot .i64 (a : Int) (b : Int) = (ofB f : Int) := by
  show IntKind.i64.wrap ((BitVec.ofInt 64 (a : Int) &&& ~~~BitVec.ofInt 64 (b : Int)).toNat : Int) = _
  have h1 : (BitVec.ofInt 64 (a : Int) &&& ~~~BitVec.ofInt 64 (b : Int)).toNat = ofB f := by
    apply eq_ofB
    · rw [BitVec.toNat_and, ofInt64_nat a (by omega)]
      exact Nat.lt_of_le_of_lt Nat.and_le_left ha
    · intro j hj
      have e : (BitVec.ofInt 64 (a : Int) &&& ~~~BitVec.ofInt 64 (b : Int)).toNat.testBit j = (BitVec.ofInt 64 (a : Int) &&& ~~~BitVec.ofInt 64 (b : Int)).getLsbD j := rfl
      rw [e, BitVec.getLsbD_and, BitVec.getLsbD_not, hf j hj]
      have e1 : (BitVec.ofInt 64 (a : Int)).getLsbD j = a.testBit j := by
        show (BitVec.ofInt 64 (a : Int)).toNat.testBit j = _; rw [ofInt64_nat a (by omega)]
      have e2 : (BitVec.ofInt 64 (b : Int)).getLsbD j = b.testBit j := by
        show (BitVec.ofInt 64 (b : Int)).toNat.testBit j = _; rw [ofInt64_nat b hb]
      rw [e1, e2]; simp [show j < 64 by omega]
  rw [h1]
  have := ofB_lt f
  exact wrap_i64_in _ (by omega) (by omega)

theorem pow_lt31 (i : Int) (h1 : i ≤ 30) : (2 : Nat) ^ i.toNat < 2147483648 := by
  have : (2 : Nat) ^ i.toNat ≤ 2 ^ 30 := Nat.pow_le_pow_right (by omega) (by omega)
  omega

theorem wrap_pow (i : Int) (h1 : i ≤ 30) : wrap64 (2 ^ i.toNat) = ((2 ^ i.toNat : Nat) : Int) := by
  have := pow_lt31 i h1
  have e : ((2 : Int) ^ i.toNat) = ((2 ^ i.toNat : Nat) : Int) := by simp
  rw [e]
  generalize (2 : Nat) ^ i.toNat = n at *
  exact IntWalk.wrap64_in _ ⟨by omega, by omega⟩

theorem with_word (s i : Int) (h0 : 0 ≤ i) (h1 : i ≤ 30) : bits .or .i64 (bits .and .i64 s 2147483647) (wrap64 (2 ^ i.toNat)) = putZ s i true := by
  rw [and_all, wrap_pow i h1, or_nat _ _ (lo_lt s) (pow_lt31 i h1)]
  unfold putZ
  have e : lo s ||| 2 ^ i.toNat = ofB fun j => if (j : Int) = i then true else hasN s j := by
    apply eq_ofB
    · exact Nat.or_lt_two_pow (n := 31) (lo_lt s) (pow_lt31 i h1)
    · intro j hj
      rw [Nat.testBit_or, lo_bit s j hj, Nat.testBit_two_pow]
      by_cases h : (j : Int) = i
      · subst h; simp
      · simp [h, show ¬ i.toNat = j by omega]
  rw [e]

theorem without_word (s i : Int) (h0 : 0 ≤ i) (h1 : i ≤ 30) : bits .andNot .i64 (bits .and .i64 s 2147483647) (wrap64 (2 ^ i.toNat)) = putZ s i false := by
  rw [and_all, wrap_pow i h1]
  unfold putZ
  apply andNot_nat _ _ (lo_lt s) _ (by have := pow_lt31 i h1; omega)
  intro j hj
  rw [lo_bit s j hj, Nat.testBit_two_pow]
  by_cases h : (j : Int) = i
  · subst h; simp
  · simp [h, show ¬ i.toNat = j by omega]

theorem set_truths (s : Int) (n : Nat) (is : Bool) (_hn : n ≤ 30) : ((sumB (((List.range 31).map (hasN s)).set n is) : Nat) : Int) = putZ s n is := by
  unfold putZ
  have e : sumB (((List.range 31).map (hasN s)).set n is) = ofB fun j => if (j : Int) = (n : Int) then is else hasN s j := by
    apply eq_ofB
    · have := sumB_lt (((List.range 31).map (hasN s)).set n is)
      simpa using this
    · intro j hj
      rw [sumB_bit, List.getD_eq_getElem?_getD, List.getElem?_set]
      by_cases h : n = j
      · subst h; simp [hj]
      · simp [h, hj, show ¬ (j : Int) = (n : Int) by omega]
  rw [e]

theorem sum_truths (s : Int) : sumB ((List.range 31).map (hasN s)) = lo s := by rw [lo_ofB]; rfl

def ofL (l : List Int) : Int := l.foldl (fun s i => putZ s i true) 0
theorem ofL_snoc (l : List Int) (i : Int) : ofL (l ++ [i]) = putZ (ofL l) i true := by simp [ofL, List.foldl_append]

theorem ofL_ofB (l : List Int) : ofL l = (ofB fun j => decide ((j : Int) ∈ l) : Nat) := by
  have key : ∀ (m : List Int) (f : Nat → Bool), m.foldl (fun s i => putZ s i true) ((ofB f : Nat) : Int) = (ofB fun j => f j || decide ((j : Int) ∈ m) : Nat) := by
    intro m
    induction m with
    | nil => intro f; simp
    | cons i r ih =>
      intro f
      simp only [List.foldl_cons]
      unfold putZ
      rw [ofB_congr _ (fun j => f j || decide ((j : Int) = i)) (by
        intro j hj
        rw [hasN_ofB f j hj]
        by_cases h : (j : Int) = i <;> simp [h])]
      have := ih (fun j => f j || decide ((j : Int) = i))
      unfold putZ at this
      rw [this]
      rw [ofB_congr (fun j => (f j || decide ((j : Int) = i)) || decide ((j : Int) ∈ r)) (fun j => f j || decide ((j : Int) ∈ i :: r)) (by
        intro j _
        by_cases h : (j : Int) = i <;> simp [h])]
  have z : ((ofB fun _ => false : Nat) : Int) = 0 := by decide
  have := key l (fun _ => false)
  rw [z] at this
  unfold ofL
  rw [this]
  rw [ofB_congr (fun j => false || decide ((j : Int) ∈ l)) (fun j => decide ((j : Int) ∈ l)) (by intro j _; simp)]

theorem bits64_lo (b : Int) (j : Nat) (hj : j < 31) : (BitVec.ofInt 64 b).getLsbD j = hasN b j := by
  show (BitVec.ofInt 64 b).toNat.testBit j = _
  rw [ofInt64_toNat, ← lo_bit b j hj]
  have e : lo b = (b % 18446744073709551616).toNat % 2 ^ 31 := by unfold lo; simp only [Nat.reducePow]; omega
  rw [e, Nat.testBit_mod_two_pow]; simp [hj]

theorem within_word (a b : Int) : bits .andNot .i64 (bits .and .i64 a 2147483647) b = (ofB (fun j => hasN a j && !hasN b j) : Nat) := by
  rw [and_all]
  show IntKind.i64.wrap ((BitVec.ofInt 64 (lo a : Int) &&& ~~~BitVec.ofInt 64 b).toNat : Int) = _
  have hl := lo_lt a
  have h1 : (BitVec.ofInt 64 (lo a : Int) &&& ~~~BitVec.ofInt 64 b).toNat = ofB (fun j => hasN a j && !hasN b j) := by
    apply eq_ofB
    · rw [BitVec.toNat_and, ofInt64_nat _ (by omega)]
      exact Nat.lt_of_le_of_lt Nat.and_le_left hl
    · intro j hj
      have e : (BitVec.ofInt 64 (lo a : Int) &&& ~~~BitVec.ofInt 64 b).toNat.testBit j = (BitVec.ofInt 64 (lo a : Int) &&& ~~~BitVec.ofInt 64 b).getLsbD j := rfl
      rw [e, BitVec.getLsbD_and, BitVec.getLsbD_not, bits64_lo b j hj]
      have e1 : (BitVec.ofInt 64 (lo a : Int)).getLsbD j = (lo a).testBit j := by
        show (BitVec.ofInt 64 (lo a : Int)).toNat.testBit j = _; rw [ofInt64_nat _ (by omega)]
      rw [e1, lo_bit a j hj]; simp [show j < 64 by omega]
  rw [h1]
  have := ofB_lt (fun j => hasN a j && !hasN b j)
  exact wrap_i64_in _ (by omega) (by omega)

def withinB (a b : Int) : Bool := (List.range 31).all fun j => !hasN a j || hasN b j

theorem within_zero (a b : Int) : (((ofB (fun j => hasN a j && !hasN b j) : Nat) : Int) == 0) = withinB a b := by
  rw [Bool.eq_iff_iff, beq_iff_eq]
  unfold withinB
  rw [List.all_eq_true]
  constructor
  · intro h j hj
    have hj' : j < 31 := by simpa using hj
    have h0 : ofB (fun j => hasN a j && !hasN b j) = 0 := by omega
    have := ofB_bit (fun j => hasN a j && !hasN b j) j
    rw [h0] at this
    simp [hj'] at this
    cases h1 : hasN a j
    · simp
    · simp [this h1]
  · intro h
    have : ofB (fun j => hasN a j && !hasN b j) = 0 := by
      apply Nat.eq_of_testBit_eq
      intro j
      rw [ofB_bit]
      by_cases hj : j < 31
      · have := h j (by simpa using hj)
        cases h1 : hasN a j <;> simp_all
      · simp [hj]
    omega

/-- so many numbers -/
def clamp (n : Int) : Nat := (max 0 (min n 31)).toNat
def firstZ (n : Int) : Int := (2 ^ clamp n - 1 : Nat)
theorem clamp_le (n : Int) : clamp n ≤ 31 := by unfold clamp; omega

theorem hasN_first (n : Int) (j : Nat) (hj : j < 31) : hasN (firstZ n) j = decide (j < clamp n) := by
  have hc := clamp_le n
  unfold firstZ
  have hp : (2 : Nat) ^ clamp n ≤ 2 ^ 31 := Nat.pow_le_pow_right (by omega) hc
  have hp' : 2 ^ clamp n - 1 < 2147483648 := by have : (2 : Nat) ^ 31 = 2147483648 := by decide
                                                have := Nat.one_le_two_pow (n := clamp n); omega
  have e : lo ((2 ^ clamp n - 1 : Nat) : Int) = 2 ^ clamp n - 1 := by
    generalize 2 ^ clamp n - 1 = m at *
    unfold lo; omega
  rw [← lo_bit _ j hj, e, Nat.testBit_two_pow_sub_one]

end Go.Proofs.YtkkoooagamadjaaGreatDoor

namespace Go.Proofs.YtkkoooagamadjaaGreatDoor
open Go.RowKit

set_option maxHeartbeats 400000 in
theorem number_in (i : Int) (w : World) (h0 : 0 ≤ i) (h1 : i ≤ 30) :
    Calls Tryz.prog 85 #[.int .i64 i] w fun e w' => e = .returned (.bool true) ∧ w = w' := by
  go_enter Tryz.func85, Tryz.ntmps85
  go_wp2
  go_ret
  exact ⟨by simp; omega, rfl⟩

set_option maxHeartbeats 400000 in
theorem number_out (i : Int) (w : World) (h : i < 0 ∨ 30 < i) :
    Calls Tryz.prog 85 #[.int .i64 i] w fun e w' => e = .returned (.bool false) ∧ w = w' := by
  rcases h with h | h
  all_goals
    go_enter Tryz.func85, Tryz.ntmps85
    go_wp2
    go_ret
    exact ⟨by simp; try omega, rfl⟩

set_option maxHeartbeats 400000 in
theorem has_any (s i : Int) (w : World) :
    Calls Tryz.prog 52 #[.int .i64 s, .int .i64 i] w fun e w' => e = .returned (.bool (hasB s i)) ∧ w = w' := by
  by_cases h : 0 ≤ i ∧ i ≤ 30
  · obtain ⟨h0, h1⟩ := h
    have H : Hid (hasB s i = (bits BinOp.and IntKind.i64 (s / 2 ^ i.toNat) 1 == 1)) := by
      unfold Hid hasB hasN; rw [if_pos ⟨h0, h1⟩, and_one]
    go_enter Tryz.func52, Tryz.ntmps52
    go_wp2_with (go_at_call 85; refine (number_in _ _ (by omega) (by omega)).mono ?_; rintro e w' ⟨rfl, rfl⟩)
    go_ret
    exact ⟨ret_bool H.out.symm, rfl⟩
  · have H : Hid (hasB s i = false) := by unfold Hid hasB; rw [if_neg h]
    have h' : i < 0 ∨ 30 < i := by omega
    have H' := Lib.hid h'; clear h h'
    go_enter Tryz.func52, Tryz.ntmps52
    go_wp2_with (go_at_call 85; refine (number_out _ _ H'.out).mono ?_; rintro e w' ⟨rfl, rfl⟩)
    go_ret
    exact ⟨ret_bool H.out.symm, rfl⟩

set_option maxHeartbeats 400000 in
theorem with_any (s i : Int) (w : World) :
    Calls Tryz.prog 75 #[.int .i64 s, .int .i64 i] w fun e w' => e = .returned (.int .i64 (putZ s i true)) ∧ w = w' := by
  by_cases h : 0 ≤ i ∧ i ≤ 30
  · obtain ⟨h0, h1⟩ := h
    have H := Lib.hid (with_word s i h0 h1)
    go_enter Tryz.func75, Tryz.ntmps75
    go_wp2_with (go_at_call 85; refine (number_in _ _ (by omega) (by omega)).mono ?_; rintro e w' ⟨rfl, rfl⟩)
    go_ret
    exact ⟨ret_int H.out, rfl⟩
  · have h' : i < 0 ∨ 30 < i := by omega
    have H := Lib.hid ((and_all s).trans (putZ_out s i true h').symm)
    have H' := Lib.hid h'; clear h h'
    go_enter Tryz.func75, Tryz.ntmps75
    go_wp2_with (go_at_call 85; refine (number_out _ _ H'.out).mono ?_; rintro e w' ⟨rfl, rfl⟩)
    go_ret
    exact ⟨ret_int H.out, rfl⟩

set_option maxHeartbeats 400000 in
theorem without_any (s i : Int) (w : World) :
    Calls Tryz.prog 53 #[.int .i64 s, .int .i64 i] w fun e w' => e = .returned (.int .i64 (putZ s i false)) ∧ w = w' := by
  by_cases h : 0 ≤ i ∧ i ≤ 30
  · obtain ⟨h0, h1⟩ := h
    have H := Lib.hid (without_word s i h0 h1)
    go_enter Tryz.func53, Tryz.ntmps53
    go_wp2_with (go_at_call 85; refine (number_in _ _ (by omega) (by omega)).mono ?_; rintro e w' ⟨rfl, rfl⟩)
    go_ret
    exact ⟨ret_int H.out, rfl⟩
  · have h' : i < 0 ∨ 30 < i := by omega
    have H := Lib.hid ((and_all s).trans (putZ_out s i false h').symm)
    have H' := Lib.hid h'; clear h h'
    go_enter Tryz.func53, Tryz.ntmps53
    go_wp2_with (go_at_call 85; refine (number_out _ _ H'.out).mono ?_; rintro e w' ⟨rfl, rfl⟩)
    go_ret
    exact ⟨ret_int H.out, rfl⟩

theorem half_step (s0 : Int) (k : Nat) : s0 / 2 ^ k / 2 = s0 / 2 ^ (k + 1) := by
  rw [Int.pow_succ, Int.ediv_ediv_of_nonneg (Int.pow_nonneg (by decide))]

theorem pow_bd (s0 : Int) (k : Nat) (h0 : -9223372036854775808 ≤ s0) (h1 : s0 ≤ 9223372036854775807) : -9223372036854775808 ≤ s0 / 2 ^ k ∧ s0 / 2 ^ k ≤ 9223372036854775807 := by
  have hp : (1 : Int) ≤ 2 ^ k := by have : (0 : Int) < 2 ^ k := Int.pow_pos (by decide); omega
  constructor
  · have : -9223372036854775808 * (2 ^ k) ≤ s0 := by
      have := Int.mul_le_mul_of_nonneg_left hp (show (0 : Int) ≤ 9223372036854775808 by decide); omega
    exact (Int.le_ediv_iff_mul_le (by omega)).2 this
  · have : s0 < 9223372036854775808 * (2 ^ k) := by
      have := Int.mul_le_mul_of_nonneg_left hp (show (0 : Int) ≤ 9223372036854775808 by decide); omega
    have := (Int.ediv_lt_iff_lt_mul (show (0 : Int) < 2 ^ k by omega)).2 this
    omega

theorem half_cases (q : Int) : (q.tmod 2 = 0 ∧ q % 2 = 0 ∧ q.tdiv 2 = q / 2) ∨ (0 ≤ q ∧ q.tmod 2 = 1 ∧ q % 2 = 1 ∧ (q - 1).tdiv 2 = q / 2) ∨ (q < 0 ∧ q.tmod 2 = -1 ∧ q % 2 = 1 ∧ (q - 1).tdiv 2 = q / 2) := by
  have e1 := Int.tmod_eq_emod_of_nonneg (a := q) (b := 2)
  have e2 := Int.mul_tdiv_add_tmod q 2
  have e3 := Int.mul_tdiv_add_tmod (q - 1) 2
  have r1 := Int.tmod_lt_of_pos q (show (0 : Int) < 2 by decide)
  have r2 := Int.lt_tmod_of_pos q (show (0 : Int) < 2 by decide)
  have r3 := Int.tmod_lt_of_pos (q - 1) (show (0 : Int) < 2 by decide)
  have r4 := Int.lt_tmod_of_pos (q - 1) (show (0 : Int) < 2 by decide)
  have e4 := Int.tmod_eq_emod_of_nonneg (a := q - 1) (b := 2)
  have e5 := Int.neg_tmod q 2
  have e6 := Int.tmod_eq_emod_of_nonneg (a := -q) (b := 2)
  rw [e5] at e6
  have e7 := Int.neg_tmod (q - 1) 2
  have e8 := Int.tmod_eq_emod_of_nonneg (a := -(q - 1)) (b := 2)
  rw [e7] at e8
  clear e5 e7
  generalize q.tmod 2 = a at *
  generalize (q - 1).tmod 2 = b at *
  generalize q.tdiv 2 = c at *
  generalize (q - 1).tdiv 2 = d at *
  omega

set_option maxHeartbeats 1000000 in
theorem rhas_any (s0 i : Int) (w : World) (hs0 : -9223372036854775808 ≤ s0) (hs1 : s0 ≤ 9223372036854775807) :
    Calls Tryz.prog 68 #[.int .i64 s0, .int .i64 i] w fun e w' => e = .returned (.bool (hasB s0 i)) ∧ w = w' := by
  by_cases h : 0 ≤ i ∧ i ≤ 30
  · obtain ⟨h0, h1⟩ := h
    obtain ⟨n, rfl⟩ := Int.eq_ofNat_of_zero_le h0
    have H : Hid (hasB s0 (n : Int) = hasN s0 n) := by unfold Hid hasB; rw [if_pos ⟨h0, h1⟩, Int.toNat_natCast]
    go_enter Tryz.func68, Tryz.ntmps68
    go_wp2
    go_loop [0, 5, 6] (fun s k _ => ∃ (j : Nat) (q : Int), j ≤ n ∧ k = .int .i64 j ∧ s = .int .i64 q ∧ Hid (q = s0 / 2 ^ j)) (fun _ k _ => n - (intOf k).toNat)
    case atStart => exact ⟨0, s0, Nat.zero_le _, rfl, rfl, by unfold Hid; simp⟩
    case round =>
      obtain ⟨j, q, hj, rfl, rfl, HQ⟩ := hrel
      have hb := pow_bd s0 j hs0 hs1
      rw [← HQ.out] at hb
      obtain ⟨hb0, hb1⟩ := hb
      have HN : Hid (q / 2 = s0 / 2 ^ (j + 1)) := by unfold Hid; rw [← half_step, ← HQ.out]
      have hv : (q.tmod 2 = 0 ∧ q % 2 = 0 ∧ q.tdiv 2 = q / 2) ∨ (0 ≤ q ∧ q.tmod 2 = 1 ∧ q % 2 = 1 ∧ (q - 1).tdiv 2 = q / 2) ∨ (q < 0 ∧ q.tmod 2 = -1 ∧ q % 2 = 1 ∧ (q - 1).tdiv 2 = q / 2) := half_cases q
      by_cases hlt : j < n
      · rcases hv with ⟨h1, h2, h3⟩ | ⟨h0, h1, h2, h3⟩ | ⟨h0, h1, h2, h3⟩
        all_goals
          go_wp2
          go_round
          case rel => exact ⟨j + 1, q / 2, by omega, by go_num, int_eq (by omega), HN⟩
          case measure => simp [intOf]; omega
      · obtain rfl : n = j := by omega
        have HE : Hid (hasN s0 n = (q % 2 == 1)) := by unfold Hid hasN; rw [HQ.out]
        rcases hv with ⟨h1, h2, h3⟩ | ⟨h0, h1, h2, h3⟩ | ⟨h0, h1, h2, h3⟩
        all_goals
          go_wp2
          go_ret
          exact ⟨ret_bool (by rw [H.out, HE.out, h2]; simp), rfl⟩
  · have H : Hid (hasB s0 i = false) := by unfold Hid hasB; rw [if_neg h]
    have h' : i < 0 ∨ 30 < i := by omega
    clear h
    rcases h' with h | h
    all_goals
      go_enter Tryz.func68, Tryz.ntmps68
      go_wp2
      go_ret
      exact ⟨ret_bool H.out.symm, rfl⟩

end Go.Proofs.YtkkoooagamadjaaGreatDoor

namespace Go.Proofs.YtkkoooagamadjaaGreatDoor
open Go.RowKit

theorem info_int : (Tryz.prog.info? 3).map (fun i => (i.zero, i.size, i.bytes)) = some (some (.int .i64 0), 1, 8) := by kernel_rfl
theorem info_bool : (Tryz.prog.info? 4).map (fun i => (i.zero, i.size, i.bytes)) = some (some (.bool false), 1, 1) := by kernel_rfl

/-- what of the first k numbers is in a set -/
def listZ (s : Int) (k : Nat) : List Int := ((List.range k).filter (hasN s)).map fun j : Nat => (j : Int)

theorem listZ_len (s : Int) (k : Nat) : (listZ s k).length ≤ k := by
  unfold listZ; rw [List.length_map]; have := List.length_filter_le (hasN s) (List.range k); simpa using this
theorem listZ_hit (s : Int) (k : Nat) (hk : k < 31) (h : hasB s k = true) : listZ s (k + 1) = listZ s k ++ [(k : Int)] := by
  have : hasN s k = true := by unfold hasB at h; rw [if_pos (by omega)] at h; simpa using h
  unfold listZ; rw [List.range_succ, List.filter_append]; simp [this]
theorem listZ_miss (s : Int) (k : Nat) (hk : k < 31) (h : hasB s k = false) : listZ s (k + 1) = listZ s k := by
  have : hasN s k = false := by unfold hasB at h; rw [if_pos (by omega)] at h; simpa using h
  unfold listZ; rw [List.range_succ, List.filter_append]; simp [this]

def ints (l : List Int) : List Value := l.map (Value.int .i64)
theorem ints_len (l : List Int) : (ints l).length = l.length := by simp [ints]

set_option maxHeartbeats 1000000 in
theorem list_any (s : Int) (w : World) :
    Calls Tryz.prog 129 #[.int .i64 s] w fun e w' => ∃ v, e = .returned v ∧ w'.ownsRow w.heap.size 3 1 v (listZ s 31).length (ints (listZ s 31)) ∧ Below w.heap.size w w' := by
  go_enter Tryz.func129, Tryz.ntmps129
  go_wp2
  go_loopw [3, 4, 5] (fun v _ i wr => ∃ k : Nat, k ≤ 31 ∧ i = .int .i64 k ∧ wr.ownsRow w.heap.size 3 1 v (listZ s k).length (ints (listZ s k)) ∧ Below w.heap.size w wr) (fun _ _ i _ => 31 - (intOf i).toNat)
  case atStart => exact ⟨0, Nat.zero_le _, rfl, World.ownsRow_nil _ _ _ _, Below.refl _ _⟩
  case round =>
    obtain ⟨k, hk, rfl, hown, hb⟩ := hrel
    have hsz := hb.size
    have hll := listZ_len s k
    by_cases hlt : k < 31
    · cases hh : hasB s k
      · have HM := Lib.hid (listZ_miss s k hlt hh)
        have HH := Lib.hid hh; clear hh
        go_wp2_with (go_at_call 52; refine (has_any _ _ _).mono ?_; rintro e w' ⟨rfl, rfl⟩; rw [HH.out])
        go_roundw
        case rel => exact ⟨k + 1, by omega, by go_num, by rw [HM.out]; exact hown, hb⟩
        case measure => simp [intOf]; omega
      · have HM := Lib.hid (listZ_hit s k hlt hh)
        have HH := Lib.hid hh; clear hh
        go_wp2_with (first | (go_at_call 52; refine (has_any _ _ _).mono ?_; rintro e w' ⟨rfl, rfl⟩; rw [HH.out]) | (at_builtin; refine app1 wr #[.int .i64 k] rfl _ _ 26 rfl w.heap.size 3 (.int .i64 0) 1 8 Tryz.underlying26 info_int rfl (by decide) (by decide) _ _ _ rfl (by exact hown) rfl (by simp) rfl (by simp [Value.oneCell']) (by omega) hsz ?_; intro v' w1 hown' hg' hb'))
        go_roundw
        case rel => exact ⟨k + 1, by omega, by go_num, by rw [HM.out]; simpa [ints] using hown', hb.trans hb'⟩
        case measure => simp [intOf]; omega
    · obtain rfl : k = 31 := by omega
      go_wp2
      go_ret
      exact ⟨_, rfl, hown, hb⟩

def bools (l : List Bool) : List Value := l.map Value.bool
theorem bools_len (l : List Bool) : (bools l).length = l.length := by simp [bools]
def truths (s : Int) (k : Nat) : List Bool := (List.range k).map (hasN s)
theorem truths_len (s : Int) (k : Nat) : (truths s k).length = k := by simp [truths]
theorem truths_succ (s : Int) (k : Nat) (hk : k < 31) : truths s (k + 1) = truths s k ++ [hasB s k] := by
  have : hasB s k = hasN s k := by unfold hasB; rw [if_pos (by omega)]; simp
  rw [this]; simp [truths, List.range_succ]

set_option maxHeartbeats 1000000 in
theorem in_any (s : Int) (w : World) (hs0 : -9223372036854775808 ≤ s) (hs1 : s ≤ 9223372036854775807) :
    Calls Tryz.prog 62 #[.int .i64 s] w fun e w' => ∃ v, e = .returned v ∧ w'.ownsRow w.heap.size 4 1 v 31 (bools (truths s 31)) ∧ Below w.heap.size w w' := by
  go_enter Tryz.func62, Tryz.ntmps62
  go_wp2
  go_loopw [3, 4] (fun v i wr => ∃ k : Nat, k ≤ 31 ∧ i = .int .i64 k ∧ wr.ownsRow w.heap.size 4 1 v k (bools (truths s k)) ∧ Below w.heap.size w wr) (fun _ i _ => 31 - (intOf i).toNat)
  case atStart => exact ⟨0, Nat.zero_le _, rfl, World.ownsRow_nil _ _ _ _, Below.refl _ _⟩
  case round =>
    obtain ⟨k, hk, rfl, hown, hb⟩ := hrel
    have hsz := hb.size
    by_cases hlt : k < 31
    · have HM := Lib.hid (truths_succ s k hlt)
      go_wp2_with (first | (go_at_call 68; refine (rhas_any _ _ _ hs0 hs1).mono ?_; rintro e w' ⟨rfl, rfl⟩) | (at_builtin; refine app1 wr #[.bool (hasB s k)] rfl _ _ 90 rfl w.heap.size 4 (.bool false) 1 1 Tryz.underlying90 info_bool rfl (by decide) (by decide) _ _ _ rfl (by exact hown) rfl (by simp) rfl (by simp [Value.oneCell']) (by omega) hsz ?_; intro v' w1 hown' hg' hb'))
      go_roundw
      case rel => exact ⟨k + 1, by omega, by go_num, by rw [HM.out]; simpa [bools] using hown', hb.trans hb'⟩
      case measure => simp [intOf]; omega
    · obtain rfl : k = 31 := by omega
      go_wp2
      go_ret
      exact ⟨_, rfl, hown, hb⟩

theorem sum_step (l : List Bool) (k : Nat) (hk : k < l.length) : sumB (l.take (k + 1)) = sumB (l.take k) + (if l.getD k false then 2 ^ k else 0) := by
  rw [List.take_succ_eq_append_getElem hk, sumB_snoc]
  simp [hk, Nat.min_eq_left (Nat.le_of_lt hk)]

theorem pow31 (k : Nat) (hk : k ≤ 31) : 1 ≤ 2 ^ k ∧ 2 ^ k ≤ 2147483648 := by
  constructor
  · exact Nat.one_le_two_pow
  · have : (2 : Nat) ^ k ≤ 2 ^ 31 := Nat.pow_le_pow_right (by omega) hk
    simpa using this

set_option maxHeartbeats 1000000 in
theorem sum_any (v : Value) (l : List Bool) (w : World) (hl : l.length = 31) (hv : Reads w v (bools l)) :
    Calls Tryz.prog 63 #[v] w fun e w' => e = .returned (.int .i64 (sumB l : Nat)) ∧ w = w' := by
  rcases hv with ⟨ad, cap, rfl, h0⟩ | ⟨b, off, cap, rfl, _, _, hc⟩
  · have := bools_len l; rw [h0] at this; simp at this; omega
  · rw [bools_len, hl]
    have HC := Lib.hid hc; clear hc
    have HL := Lib.hid hl; clear hl
    go_enter Tryz.func63, Tryz.ntmps63
    go_wp2
    go_loop [3, 4, 5] (fun s p i => ∃ (k a q : Nat), k ≤ 31 ∧ i = .int .i64 k ∧ s = .int .i64 a ∧ p = .int .i64 q ∧ a < q ∧ q ≤ 2147483648 ∧ Hid (a = sumB (l.take k)) ∧ Hid (q = 2 ^ k)) (fun _ _ i => 31 - (intOf i).toNat)
    case atStart => exact ⟨0, 0, 1, Nat.zero_le _, rfl, rfl, rfl, by omega, by omega, by unfold Hid; simp [sumB], rfl⟩
    case round =>
      obtain ⟨k, a, q, hk, rfl, rfl, rfl, haq, hq, HA, HQ⟩ := hrel
      by_cases hlt : k < 31
      · have hlk : k < l.length := by have := HL.out; omega
        have HS : Hid (sumB (l.take (k + 1)) = a + (if l.getD k false then q else 0)) := by unfold Hid; rw [sum_step l k hlk, HA.out, HQ.out]
        have HQ' : Hid (2 * q = 2 ^ (k + 1)) := by unfold Hid; rw [HQ.out, Nat.pow_succ]; omega
        have hq' : 2 * q ≤ 2147483648 := by have := pow31 (k + 1) (by omega); rw [← HQ'.out] at this; exact this.2
        have hcell : w.cell? ⟨b, off + k, none⟩ = some (.bool (l.getD k false)) := HC.out k _ (by simp [bools, List.getElem?_eq_getElem hlk, List.getD_eq_getElem?_getD])
        clear hlk
        cases hb : l.getD k false
        all_goals
          rw [hb] at hcell HS
          clear hb
          go_wp2
          go_round
          case rel => exact ⟨k + 1, _, 2 * q, by omega, by go_num, rfl, int_eq (by omega), by first | omega | (simp; omega), hq', by unfold Hid; rw [HS.out]; simp, HQ'⟩
          case measure => simp [intOf]; omega
      · obtain rfl : k = 31 := by omega
        have HE : Hid (a = sumB l) := by unfold Hid; rw [HA.out, List.take_of_length_le (by have := HL.out; omega)]
        go_wp2
        go_ret
        exact ⟨ret_int (by rw [HE.out]), rfl⟩

end Go.Proofs.YtkkoooagamadjaaGreatDoor
