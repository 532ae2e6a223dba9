/- Plain laws of sets of 31 numbers: the words of the machine, lists of truths, lists of numbers; no program in sight. -/
import Derived.WalkKit
import Derived.Laws.BitsAllLaws
namespace Go.Proofs.Ytjmggphnngffjaa
open Go.RowKit

/-- the number of a list of truths -/
def sumB : List Bool → Nat
  | [] => 0
  | b :: r => (if b then 1 else 0) + 2 * sumB r

theorem sumB_lt (l : List Bool) : sumB l < 2 ^ l.length := by
  induction l with
  | nil => simp [sumB]
  | cons b r ih => simp only [sumB, List.length_cons, Nat.pow_succ]; split <;> omega

theorem sumB_bit (l : List Bool) (j : Nat) : (sumB l).testBit j = l.getD j false := by
  induction l generalizing j with
  | nil => simp [sumB]
  | cons b r ih =>
    cases j with
    | zero => cases b <;> simp [sumB, Nat.testBit_zero] <;> omega
    | succ j =>
      rw [Nat.testBit_succ]
      have h : sumB (b :: r) / 2 = sumB r := by simp only [sumB]; split <;> omega
      rw [h, ih]; simp

theorem sumB_snoc (l : List Bool) (b : Bool) : sumB (l ++ [b]) = sumB l + (if b then 2 ^ l.length else 0) := by
  induction l with
  | nil => cases b <;> simp [sumB]
  | cons c r ih =>
    simp only [List.cons_append, sumB, ih, List.length_cons, Nat.pow_succ]
    cases b <;> simp <;> omega

/-- is a number in a set? -/
def hasN (s : Int) (j : Nat) : Bool := s / 2 ^ j % 2 == 1
def hasB (s i : Int) : Bool := if 0 ≤ i ∧ i ≤ 30 then hasN s i.toNat else false

def ofB (f : Nat → Bool) : Nat := sumB ((List.range 31).map f)

theorem ofB_lt (f : Nat → Bool) : ofB f < 2147483648 := by
  have := sumB_lt ((List.range 31).map f)
  simpa [ofB] using this

theorem ofB_bit (f : Nat → Bool) (j : Nat) : (ofB f).testBit j = (decide (j < 31) && f j) := by
  unfold ofB
  rw [sumB_bit, List.getD_eq_getElem?_getD]
  by_cases h : j < 31
  · simp [h]
  · simp [h]

theorem ofB_congr (f g : Nat → Bool) (h : ∀ j, j < 31 → f j = g j) : ofB f = ofB g := by
  unfold ofB
  rw [List.map_congr_left]
  intro a ha
  exact h a (by simpa using ha)

theorem eq_ofB (n : Nat) (h : n < 2147483648) (f : Nat → Bool) (hf : ∀ j, j < 31 → n.testBit j = f j) : n = ofB f := by
  apply Nat.eq_of_testBit_eq
  intro j
  rw [ofB_bit]
  by_cases hj : j < 31
  · simp [hj, hf j hj]
  · simp only [hj, decide_false, Bool.false_and]
    apply Nat.testBit_lt_two_pow
    exact Nat.lt_of_lt_of_le h (by have := Nat.pow_le_pow_right (n := 2) (by omega) (show 31 ≤ j by omega); simpa using this)

def lo (s : Int) : Nat := (s % 2147483648).toNat

theorem lo_lt (s : Int) : lo s < 2147483648 := by unfold lo; omega

theorem lo_bit (s : Int) (j : Nat) (h : j < 31) : (lo s).testBit j = hasN s j := by
  unfold hasN lo
  rw [Nat.testBit_eq_decide_div_mod_eq]
  obtain ⟨d, hd⟩ : ∃ d, 31 = j + (d + 1) := ⟨30 - j, by omega⟩
  have hp : (2147483648 : Int) = 2 ^ j * (2 * 2 ^ d) := by
    have : (2147483648 : Int) = 2 ^ 31 := by decide
    rw [this, hd, Int.pow_add, Int.pow_succ]; congr 1; exact Int.mul_comm _ _
  have hm : 0 ≤ s % 2147483648 := Int.emod_nonneg _ (by decide)
  have e1 : s = s % 2147483648 + 2 ^ j * (2 * (2 ^ d * (s / 2147483648))) := by
    have := Int.emod_add_mul_ediv s 2147483648
    conv => lhs; rw [← this]
    congr 1
    conv => lhs; rw [hp]
    rw [Int.mul_assoc, Int.mul_assoc]; rw [← hp]
  have hpos : (0 : Int) < 2 ^ j := Int.pow_pos (by decide)
  have e2 : s / 2 ^ j = s % 2147483648 / 2 ^ j + 2 * (2 ^ d * (s / 2147483648)) := by
    conv => lhs; rw [e1]
    exact Int.add_mul_ediv_left _ _ (by omega)
  have e3 : s / 2 ^ j % 2 = s % 2147483648 / 2 ^ j % 2 := by rw [e2]; omega
  rw [e3]
  obtain ⟨n, hn⟩ := Int.eq_ofNat_of_zero_le hm
  rw [hn]
  have e4 : ((n : Int) / 2 ^ j % 2) = ((n / 2 ^ j % 2 : Nat) : Int) := by
    rw [Int.natCast_emod, Int.natCast_ediv]; simp
  simp only [Int.toNat_natCast]
  rw [e4]
  rw [Bool.eq_iff_iff]; simp; omega

theorem lo_ofB (s : Int) : lo s = ofB (hasN s) := eq_ofB _ (lo_lt s) _ fun j hj => lo_bit s j hj

theorem hasN_ofB (f : Nat → Bool) (j : Nat) (h : j < 31) : hasN (ofB f) j = f j := by
  have e : lo (ofB f : Int) = ofB f := by unfold lo; have := ofB_lt f; omega
  rw [← lo_bit _ j h, e, ofB_bit]; simp [h]

/-- a set in which a number is, or is not -/
def putZ (s i : Int) (is : Bool) : Int := (ofB fun j => if (j : Int) = i then is else hasN s j : Nat)

theorem putZ_bd (s i : Int) (is : Bool) : 0 ≤ putZ s i is ∧ putZ s i is < 2147483648 := by
  unfold putZ
  have := ofB_lt fun j => if (j : Int) = i then is else hasN s j
  omega

theorem putZ_out (s i : Int) (is : Bool) (h : i < 0 ∨ 30 < i) : putZ s i is = lo s := by
  unfold putZ
  rw [lo_ofB, ofB_congr _ (hasN s)]
  intro j hj
  rw [if_neg (by omega)]

theorem hasB_putZ (s i k : Int) (is : Bool) : hasB (putZ s i is) k = if 0 ≤ k ∧ k ≤ 30 then (if k = i then is else hasB s k) else false := by
  unfold hasB putZ
  by_cases h : 0 ≤ k ∧ k ≤ 30
  · simp only [h, and_self, if_true]
    rw [hasN_ofB _ _ (by omega)]
    have : ((k.toNat : Nat) : Int) = k := by omega
    rw [this]
  · simp [h]

/- the machine's words -/
theorem wrap_i64_in (n : Int) (h0 : -9223372036854775808 ≤ n) (h1 : n < 9223372036854775808) : IntKind.i64.wrap n = n := by
  have := IntWalk.i64_in n ⟨by omega, by omega⟩
  exact this

theorem ofInt64_nat (n : Nat) (h : n < 9223372036854775808) : (BitVec.ofInt 64 (n : Int)).toNat = n := by
  rw [BitVec.ofInt_natCast, BitVec.toNat_ofNat]; exact Nat.mod_eq_of_lt (by omega)

theorem ofInt64_toNat (s : Int) : (BitVec.ofInt 64 s).toNat = (s % 18446744073709551616).toNat := by
  rw [BitVec.toNat_ofInt, show ((2 ^ 64 : Nat) : Int) = 18446744073709551616 from by decide]

theorem and_nat (s : Int) (c : Nat) (hc : c < 9223372036854775808) : bits .and .i64 s (c : Int) = (((s % 18446744073709551616).toNat &&& c : Nat) : Int) := by
  show IntKind.i64.wrap ((BitVec.ofInt 64 s &&& BitVec.ofInt 64 (c : Int)).toNat : Int) = _
  rw [BitVec.toNat_and, ofInt64_toNat, ofInt64_nat c hc]
  have : (s % 18446744073709551616).toNat &&& c ≤ c := Nat.and_le_right
  exact wrap_i64_in _ (by omega) (by omega)

theorem and_all (s : Int) : bits .and .i64 s 2147483647 = (lo s : Int) := by
  have h := and_nat s 2147483647 (by omega)
  rw [show ((2147483647 : Nat) : Int) = 2147483647 from rfl] at h
  rw [h, show (2147483647 : Nat) = 2 ^ 31 - 1 from rfl, Nat.and_two_pow_sub_one_eq_mod]
  unfold lo
  simp only [Nat.reducePow]
  congr 1
  omega

theorem and_one (s : Int) : bits .and .i64 s 1 = s % 2 := by
  have h := and_nat s 1 (by omega)
  rw [show ((1 : Nat) : Int) = 1 from rfl] at h
  rw [h, Nat.and_one_is_mod]
  omega

theorem or_nat (a b : Nat) (ha : a < 2147483648) (hb : b < 2147483648) : bits .or .i64 (a : Int) (b : Int) = ((a ||| b : Nat) : Int) := by
  show IntKind.i64.wrap ((BitVec.ofInt 64 (a : Int) ||| BitVec.ofInt 64 (b : Int)).toNat : Int) = _
  rw [BitVec.toNat_or, ofInt64_nat a (by omega), ofInt64_nat b (by omega)]
  have : a ||| b < 2 ^ 31 := Nat.or_lt_two_pow (by omega) (by omega)
  exact wrap_i64_in _ (by omega) (by omega)

theorem andNot_nat (a b : Nat) (ha : a < 2147483648) (f : Nat → Bool) (hb : b < 9223372036854775808) (hf : ∀ j, j < 31 → f j = (a.testBit j && !b.testBit j)) : bits .andNot .i64 (a : Int) (b : Int) = (ofB f : Int) := by
  show IntKind.i64.wrap ((BitVec.ofInt 64 (a : Int) &&& ~~~BitVec.ofInt 64 (b : Int)).toNat : Int) = _
  have h1 : (BitVec.ofInt 64 (a : Int) &&& ~~~BitVec.ofInt 64 (b : Int)).toNat = ofB f := by
    apply eq_ofB
    · rw [BitVec.toNat_and, ofInt64_nat a (by omega)]
      exact Nat.lt_of_le_of_lt Nat.and_le_left ha
    · intro j hj
      have e : (BitVec.ofInt 64 (a : Int) &&& ~~~BitVec.ofInt 64 (b : Int)).toNat.testBit j = (BitVec.ofInt 64 (a : Int) &&& ~~~BitVec.ofInt 64 (b : Int)).getLsbD j := rfl
      rw [e, BitVec.getLsbD_and, BitVec.getLsbD_not, hf j hj]
      have e1 : (BitVec.ofInt 64 (a : Int)).getLsbD j = a.testBit j := by
        show (BitVec.ofInt 64 (a : Int)).toNat.testBit j = _; rw [ofInt64_nat a (by omega)]
      have e2 : (BitVec.ofInt 64 (b : Int)).getLsbD j = b.testBit j := by
        show (BitVec.ofInt 64 (b : Int)).toNat.testBit j = _; rw [ofInt64_nat b hb]
      rw [e1, e2]; simp [show j < 64 by omega]
  rw [h1]
  have := ofB_lt f
  exact wrap_i64_in _ (by omega) (by omega)

theorem pow_lt31 (i : Int) (h1 : i ≤ 30) : (2 : Nat) ^ i.toNat < 2147483648 := by
  have : (2 : Nat) ^ i.toNat ≤ 2 ^ 30 := Nat.pow_le_pow_right (by omega) (by omega)
  omega

theorem wrap_pow (i : Int) (h1 : i ≤ 30) : wrap64 (2 ^ i.toNat) = ((2 ^ i.toNat : Nat) : Int) := by
  have := pow_lt31 i h1
  have e : ((2 : Int) ^ i.toNat) = ((2 ^ i.toNat : Nat) : Int) := by simp
  rw [e]
  generalize (2 : Nat) ^ i.toNat = n at *
  exact IntWalk.wrap64_in _ ⟨by omega, by omega⟩

theorem with_word (s i : Int) (h0 : 0 ≤ i) (h1 : i ≤ 30) : bits .or .i64 (bits .and .i64 s 2147483647) (wrap64 (2 ^ i.toNat)) = putZ s i true := by
  rw [and_all, wrap_pow i h1, or_nat _ _ (lo_lt s) (pow_lt31 i h1)]
  unfold putZ
  have e : lo s ||| 2 ^ i.toNat = ofB fun j => if (j : Int) = i then true else hasN s j := by
    apply eq_ofB
    · exact Nat.or_lt_two_pow (n := 31) (lo_lt s) (pow_lt31 i h1)
    · intro j hj
      rw [Nat.testBit_or, lo_bit s j hj, Nat.testBit_two_pow]
      by_cases h : (j : Int) = i
      · subst h; simp
      · simp [h, show ¬ i.toNat = j by omega]
  rw [e]

theorem without_word (s i : Int) (h0 : 0 ≤ i) (h1 : i ≤ 30) : bits .andNot .i64 (bits .and .i64 s 2147483647) (wrap64 (2 ^ i.toNat)) = putZ s i false := by
  rw [and_all, wrap_pow i h1]
  unfold putZ
  apply andNot_nat _ _ (lo_lt s) _ (by have := pow_lt31 i h1; omega)
  intro j hj
  rw [lo_bit s j hj, Nat.testBit_two_pow]
  by_cases h : (j : Int) = i
  · subst h; simp
  · simp [h, show ¬ i.toNat = j by omega]

theorem set_truths (s : Int) (n : Nat) (is : Bool) (_hn : n ≤ 30) : ((sumB (((List.range 31).map (hasN s)).set n is) : Nat) : Int) = putZ s n is := by
  unfold putZ
  have e : sumB (((List.range 31).map (hasN s)).set n is) = ofB fun j => if (j : Int) = (n : Int) then is else hasN s j := by
    apply eq_ofB
    · have := sumB_lt (((List.range 31).map (hasN s)).set n is)
      simpa using this
    · intro j hj
      rw [sumB_bit, List.getD_eq_getElem?_getD, List.getElem?_set]
      by_cases h : n = j
      · subst h; simp [hj]
      · simp [h, hj, show ¬ (j : Int) = (n : Int) by omega]
  rw [e]

theorem sum_truths (s : Int) : sumB ((List.range 31).map (hasN s)) = lo s := by rw [lo_ofB]; rfl

def ofL (l : List Int) : Int := l.foldl (fun s i => putZ s i true) 0
theorem ofL_snoc (l : List Int) (i : Int) : ofL (l ++ [i]) = putZ (ofL l) i true := by simp [ofL, List.foldl_append]

theorem ofL_ofB (l : List Int) : ofL l = (ofB fun j => decide ((j : Int) ∈ l) : Nat) := by
  have key : ∀ (m : List Int) (f : Nat → Bool), m.foldl (fun s i => putZ s i true) ((ofB f : Nat) : Int) = (ofB fun j => f j || decide ((j : Int) ∈ m) : Nat) := by
    intro m
    induction m with
    | nil => intro f; simp
    | cons i r ih =>
      intro f
      simp only [List.foldl_cons]
      unfold putZ
      rw [ofB_congr _ (fun j => f j || decide ((j : Int) = i)) (by
        intro j hj
        rw [hasN_ofB f j hj]
        by_cases h : (j : Int) = i <;> simp [h])]
      have := ih (fun j => f j || decide ((j : Int) = i))
      unfold putZ at this
      rw [this]
      rw [ofB_congr (fun j => (f j || decide ((j : Int) = i)) || decide ((j : Int) ∈ r)) (fun j => f j || decide ((j : Int) ∈ i :: r)) (by
        intro j _
        by_cases h : (j : Int) = i <;> simp [h])]
  have z : ((ofB fun _ => false : Nat) : Int) = 0 := by decide
  have := key l (fun _ => false)
  rw [z] at this
  unfold ofL
  rw [this]
  rw [ofB_congr (fun j => false || decide ((j : Int) ∈ l)) (fun j => decide ((j : Int) ∈ l)) (by intro j _; simp)]

theorem bits64_lo (b : Int) (j : Nat) (hj : j < 31) : (BitVec.ofInt 64 b).getLsbD j = hasN b j := by
  show (BitVec.ofInt 64 b).toNat.testBit j = _
  rw [ofInt64_toNat, ← lo_bit b j hj]
  have e : lo b = (b % 18446744073709551616).toNat % 2 ^ 31 := by unfold lo; simp only [Nat.reducePow]; omega
  rw [e, Nat.testBit_mod_two_pow]; simp [hj]

theorem within_word (a b : Int) : bits .andNot .i64 (bits .and .i64 a 2147483647) b = (ofB (fun j => hasN a j && !hasN b j) : Nat) := by
  rw [and_all]
  show IntKind.i64.wrap ((BitVec.ofInt 64 (lo a : Int) &&& ~~~BitVec.ofInt 64 b).toNat : Int) = _
  have hl := lo_lt a
  have h1 : (BitVec.ofInt 64 (lo a : Int) &&& ~~~BitVec.ofInt 64 b).toNat = ofB (fun j => hasN a j && !hasN b j) := by
    apply eq_ofB
    · rw [BitVec.toNat_and, ofInt64_nat _ (by omega)]
      exact Nat.lt_of_le_of_lt Nat.and_le_left hl
    · intro j hj
      have e : (BitVec.ofInt 64 (lo a : Int) &&& ~~~BitVec.ofInt 64 b).toNat.testBit j = (BitVec.ofInt 64 (lo a : Int) &&& ~~~BitVec.ofInt 64 b).getLsbD j := rfl
      rw [e, BitVec.getLsbD_and, BitVec.getLsbD_not, bits64_lo b j hj]
      have e1 : (BitVec.ofInt 64 (lo a : Int)).getLsbD j = (lo a).testBit j := by
        show (BitVec.ofInt 64 (lo a : Int)).toNat.testBit j = _; rw [ofInt64_nat _ (by omega)]
      rw [e1, lo_bit a j hj]; simp [show j < 64 by omega]
  rw [h1]
  have := ofB_lt (fun j => hasN a j && !hasN b j)
  exact wrap_i64_in _ (by omega) (by omega)

def withinB (a b : Int) : Bool := (List.range 31).all fun j => !hasN a j || hasN b j

theorem within_zero (a b : Int) : (((ofB (fun j => hasN a j && !hasN b j) : Nat) : Int) == 0) = withinB a b := by
  rw [Bool.eq_iff_iff, beq_iff_eq]
  unfold withinB
  rw [List.all_eq_true]
  constructor
  · intro h j hj
    have hj' : j < 31 := by simpa using hj
    have h0 : ofB (fun j => hasN a j && !hasN b j) = 0 := by omega
    have := ofB_bit (fun j => hasN a j && !hasN b j) j
    rw [h0] at this
    simp [hj'] at this
    cases h1 : hasN a j
    · simp
    · simp [this h1]
  · intro h
    have : ofB (fun j => hasN a j && !hasN b j) = 0 := by
      apply Nat.eq_of_testBit_eq
      intro j
      rw [ofB_bit]
      by_cases hj : j < 31
      · have := h j (by simpa using hj)
        cases h1 : hasN a j <;> simp_all
      · simp [hj]
    omega

/-- so many numbers -/
def clamp (n : Int) : Nat := (max 0 (min n 31)).toNat
def firstZ (n : Int) : Int := (2 ^ clamp n - 1 : Nat)
theorem clamp_le (n : Int) : clamp n ≤ 31 := by unfold clamp; omega

theorem hasN_first (n : Int) (j : Nat) (hj : j < 31) : hasN (firstZ n) j = decide (j < clamp n) := by
  have hc := clamp_le n
  unfold firstZ
  have hp : (2 : Nat) ^ clamp n ≤ 2 ^ 31 := Nat.pow_le_pow_right (by omega) hc
  have hp' : 2 ^ clamp n - 1 < 2147483648 := by have : (2 : Nat) ^ 31 = 2147483648 := by decide
                                                have := Nat.one_le_two_pow (n := clamp n); omega
  have e : lo ((2 ^ clamp n - 1 : Nat) : Int) = 2 ^ clamp n - 1 := by
    generalize 2 ^ clamp n - 1 = m at *
    unfold lo; omega
  rw [← lo_bit _ j hj, e, Nat.testBit_two_pow_sub_one]

end Go.Proofs.Ytjmggphnngffjaa
