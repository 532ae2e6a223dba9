/- Plain laws of sets of 31 numbers: the words of the machine, lists of truths, lists of numbers; no program in sight. Plain: conditions asked of a state: by a row of truths, and by the tree; no program in sight. Plain: what lies in what: steps up, what lies above, below; no program in sight. -/
import Derived.WalkKit
import Derived.Laws.BitsAllLaws
import Derived.Test.YtadjnfpomjopkaaGreatSm02
import Derived.Test.YtadjnfpomjopkaaGreatSm03

namespace Go.Proofs.YtadjnfpomjopkaaGreat
open Go.RowKit

/-- the number of a list of truths -/
def sumB : List Bool → Nat
  | [] => 0
  | b :: r => (if b then 1 else 0) + 2 * sumB r

theorem sumB_lt (l : List Bool) : sumB l < 2 ^ l.length := by
  induction l with
  | nil => simp [sumB]
  | cons b r ih => simp only [sumB, List.length_cons, Nat.pow_succ]; split <;> omega

theorem sumB_bit (l : List Bool) (j : Nat) : (sumB l).testBit j = l.getD j false := by
  induction l generalizing j with
  | nil => simp [sumB]
  | cons b r ih =>
    cases j with
    | zero => cases b <;> simp [sumB, Nat.testBit_zero] <;> omega
    | succ j =>
      rw [Nat.testBit_succ]
      have h : sumB (b :: r) / 2 = sumB r := by simp only [sumB]; split <;> omega
      rw [h, ih]; simp

theorem sumB_snoc (l : List Bool) (b : Bool) : sumB (l ++ [b]) = sumB l + (if b then 2 ^ l.length else 0) := by
  induction l with
  | nil => cases b <;> simp [sumB]
  | cons c r ih =>
    simp only [List.cons_append, sumB, ih, List.length_cons, Nat.pow_succ]
    cases b <;> simp <;> omega

/-- is a number in a set? -/
def hasN (s : Int) (j : Nat) : Bool := s / 2 ^ j % 2 == 1
def hasB (s i : Int) : Bool := if 0 ≤ i ∧ i ≤ 30 then hasN s i.toNat else false

def ofB (f : Nat → Bool) : Nat := sumB ((List.range 31).map f)

theorem ofB_lt (f : Nat → Bool) : ofB f < 2147483648 := by
  have := sumB_lt ((List.range 31).map f)
  simpa [ofB] using this

theorem ofB_bit (f : Nat → Bool) (j : Nat) : (ofB f).testBit j = (decide (j < 31) && f j) := by
  unfold ofB
  rw [sumB_bit, List.getD_eq_getElem?_getD]
  by_cases h : j < 31
  · simp [h]
  · simp [h]

theorem ofB_congr (f g : Nat → Bool) (h : ∀ j, j < 31 → f j = g j) : ofB f = ofB g := by
  unfold ofB
  rw [List.map_congr_left]
  intro a ha
  exact h a (by simpa using ha)

theorem eq_ofB (n : Nat) (h : n < 2147483648) (f : Nat → Bool) (hf : ∀ j, j < 31 → n.testBit j = f j) : n = ofB f := by
  apply Nat.eq_of_testBit_eq
  intro j
  rw [ofB_bit]
  by_cases hj : j < 31
  · simp [hj, hf j hj]
  · simp only [hj, decide_false, Bool.false_and]
    apply Nat.testBit_lt_two_pow
    exact Nat.lt_of_lt_of_le h (by have := Nat.pow_le_pow_right (n := 2) (by omega) (show 31 ≤ j by omega); simpa using this)

def lo (s : Int) : Nat := (s % 2147483648).toNat

theorem lo_lt (s : Int) : lo s < 2147483648 := by unfold lo; omega

theorem lo_bit (s : Int) (j : Nat) (h : j < 31) : (lo s).testBit j = hasN s j := by
  unfold hasN lo
  rw [Nat.testBit_eq_decide_div_mod_eq]
  obtain ⟨d, hd⟩ : ∃ d, 31 = j + (d + 1) := ⟨30 - j, by omega⟩
  have hp : (2147483648 : Int) = 2 ^ j * (2 * 2 ^ d) := by
    have : (2147483648 : Int) = 2 ^ 31 := by decide
    rw [this, hd, Int.pow_add, Int.pow_succ]; congr 1; exact Int.mul_comm _ _
  have hm : 0 ≤ s % 2147483648 := Int.emod_nonneg _ (by decide)
  have e1 : s = s % 2147483648 + 2 ^ j * (2 * (2 ^ d * (s / 2147483648))) := by
    have := Int.emod_add_mul_ediv s 2147483648
    conv => lhs; rw [← this]
    congr 1
    conv => lhs; rw [hp]
    rw [Int.mul_assoc, Int.mul_assoc]; rw [← hp]
  have hpos : (0 : Int) < 2 ^ j := Int.pow_pos (by decide)
  have e2 : s / 2 ^ j = s % 2147483648 / 2 ^ j + 2 * (2 ^ d * (s / 2147483648)) := by
    conv => lhs; rw [e1]
    exact Int.add_mul_ediv_left _ _ (by omega)
  have e3 : s / 2 ^ j % 2 = s % 2147483648 / 2 ^ j % 2 := by rw [e2]; omega
  rw [e3]
  obtain ⟨n, hn⟩ := Int.eq_ofNat_of_zero_le hm
  rw [hn]
  have e4 : ((n : Int) / 2 ^ j % 2) = ((n / 2 ^ j % 2 : Nat) : Int) := by
    rw [Int.natCast_emod, Int.natCast_ediv]; simp
  simp only [Int.toNat_natCast]
  rw [e4]
  rw [Bool.eq_iff_iff]; simp; omega

theorem lo_ofB (s : Int) : lo s = ofB (hasN s) := eq_ofB _ (lo_lt s) _ fun j hj => lo_bit s j hj

theorem hasN_ofB (f : Nat → Bool) (j : Nat) (h : j < 31) : hasN (ofB f) j = f j := by
  have e : lo (ofB f : Int) = ofB f := by unfold lo; have := ofB_lt f; omega
  rw [← lo_bit _ j h, e, ofB_bit]; simp [h]

/-- a set in which a number is, or is not -/
def putZ (s i : Int) (is : Bool) : Int := (ofB fun j => if (j : Int) = i then is else hasN s j : Nat)

theorem putZ_bd (s i : Int) (is : Bool) : 0 ≤ putZ s i is ∧ putZ s i is < 2147483648 := by
  unfold putZ
  have := ofB_lt fun j => if (j : Int) = i then is else hasN s j
  omega

theorem putZ_out (s i : Int) (is : Bool) (h : i < 0 ∨ 30 < i) : putZ s i is = lo s := by
  unfold putZ
  rw [lo_ofB, ofB_congr _ (hasN s)]
  intro j hj
  rw [if_neg (by omega)]

theorem hasB_putZ (s i k : Int) (is : Bool) : hasB (putZ s i is) k = if 0 ≤ k ∧ k ≤ 30 then (if k = i then is else hasB s k) else false := by
  unfold hasB putZ
  by_cases h : 0 ≤ k ∧ k ≤ 30
  · simp only [h, and_self, if_true]
    rw [hasN_ofB _ _ (by omega)]
    have : ((k.toNat : Nat) : Int) = k := by omega
    rw [this]
  · simp [h]

/- the machine's words -/
theorem wrap_i64_in (n : Int) (h0 : -9223372036854775808 ≤ n) (h1 : n < 9223372036854775808) : IntKind.i64.wrap n = n := by
  have := IntWalk.i64_in n ⟨by omega, by omega⟩
  exact this

theorem ofInt64_nat (n : Nat) (h : n < 9223372036854775808) : (BitVec.ofInt 64 (n : Int)).toNat = n := by
  rw [BitVec.ofInt_natCast, BitVec.toNat_ofNat]; exact Nat.mod_eq_of_lt (by omega)

theorem ofInt64_toNat (s : Int) : (BitVec.ofInt 64 s).toNat = (s % 18446744073709551616).toNat := by
  rw [BitVec.toNat_ofInt, show ((2 ^ 64 : Nat) : Int) = 18446744073709551616 from by decide]

theorem and_nat (s : Int) (c : Nat) (hc : c < 9223372036854775808) : bits .and .i64 s (c : Int) = (((s % 18446744073709551616).toNat &&& c : Nat) : Int) := by
  show IntKind.i64.wrap ((BitVec.ofInt 64 s &&& BitVec.ofInt 64 (c : Int)).toNat : Int) = _
  rw [BitVec.toNat_and, ofInt64_toNat, ofInt64_nat c hc]
  have : (s % 18446744073709551616).toNat &&& c ≤ c := Nat.and_le_right
  exact wrap_i64_in _ (by omega) (by omega)

theorem and_all (s : Int) : bits .and .i64 s 2147483647 = (lo s : Int) := by
  have h := and_nat s 2147483647 (by omega)
  rw [show ((2147483647 : Nat) : Int) = 2147483647 from rfl] at h
  rw [h, show (2147483647 : Nat) = 2 ^ 31 - 1 from rfl, Nat.and_two_pow_sub_one_eq_mod]
  unfold lo
  simp only [Nat.reducePow]
  congr 1
  omega

theorem and_one (s : Int) : bits .and .i64 s 1 = s % 2 := by
  have h := and_nat s 1 (by omega)
  rw [show ((1 : Nat) : Int) = 1 from rfl] at h
  rw [h, Nat.and_one_is_mod]
  omega

theorem or_nat (a b : Nat) (ha : a < 2147483648) (hb : b < 2147483648) : bits .or .i64 (a : Int) (b : Int) = ((a ||| b : Nat) : Int) := by
  show IntKind.i64.wrap ((BitVec.ofInt 64 (a : Int) ||| BitVec.ofInt 64 (b : Int)).toNat : Int) = _
  rw [BitVec.toNat_or, ofInt64_nat a (by omega), ofInt64_nat b (by omega)]
  have : a ||| b < 2 ^ 31 := Nat.or_lt_two_pow (by omega) (by omega)
  exact wrap_i64_in _ (by omega) (by omega)

theorem andNot_nat (a b : Nat) (ha : a < 2147483648) (f : Nat → Bool) (hb : b < 9223372036854775808) (hf : ∀ j, j < 31 → f j = (a.testBit j && !b.testBit j)) : bits .andNot .i64 (a : Int) (b : Int) = (ofB f : Int) := by
  show IntKind.i64.wrap ((BitVec.ofInt 64 (a : Int) &&& ~~~BitVec.ofInt 64 (b : Int)).toNat : Int) = _
  have h1 : (BitVec.ofInt 64 (a : Int) &&& ~~~BitVec.ofInt 64 (b : Int)).toNat = ofB f := by
    apply eq_ofB
    · rw [BitVec.toNat_and, ofInt64_nat a (by omega)]
      exact Nat.lt_of_le_of_lt Nat.and_le_left ha
    · intro j hj
      have e : (BitVec.ofInt 64 (a : Int) &&& ~~~BitVec.ofInt 64 (b : Int)).toNat.testBit j = (BitVec.ofInt 64 (a : Int) &&& ~~~BitVec.ofInt 64 (b : Int)).getLsbD j := rfl
      rw [e, BitVec.getLsbD_and, BitVec.getLsbD_not, hf j hj]
      have e1 : (BitVec.ofInt 64 (a : Int)).getLsbD j = a.testBit j := by
        show (BitVec.ofInt 64 (a : Int)).toNat.testBit j = _; rw [ofInt64_nat a (by omega)]
      have e2 : (BitVec.ofInt 64 (b : Int)).getLsbD j = b.testBit j := by
        show (BitVec.ofInt 64 (b : Int)).toNat.testBit j = _; rw [ofInt64_nat b hb]
      rw [e1, e2]; simp [show j < 64 by omega]
  rw [h1]
  have := ofB_lt f
  exact wrap_i64_in _ (by omega) (by omega)

theorem pow_lt31 (i : Int) (h1 : i ≤ 30) : (2 : Nat) ^ i.toNat < 2147483648 := by
  have : (2 : Nat) ^ i.toNat ≤ 2 ^ 30 := Nat.pow_le_pow_right (by omega) (by omega)
  omega

theorem wrap_pow (i : Int) (h1 : i ≤ 30) : wrap64 (2 ^ i.toNat) = ((2 ^ i.toNat : Nat) : Int) := by
  have := pow_lt31 i h1
  have e : ((2 : Int) ^ i.toNat) = ((2 ^ i.toNat : Nat) : Int) := by simp
  rw [e]
  generalize (2 : Nat) ^ i.toNat = n at *
  exact IntWalk.wrap64_in _ ⟨by omega, by omega⟩

theorem with_word (s i : Int) (h0 : 0 ≤ i) (h1 : i ≤ 30) : bits .or .i64 (bits .and .i64 s 2147483647) (wrap64 (2 ^ i.toNat)) = putZ s i true := by
  rw [and_all, wrap_pow i h1, or_nat _ _ (lo_lt s) (pow_lt31 i h1)]
  unfold putZ
  have e : lo s ||| 2 ^ i.toNat = ofB fun j => if (j : Int) = i then true else hasN s j := by
    apply eq_ofB
    · exact Nat.or_lt_two_pow (n := 31) (lo_lt s) (pow_lt31 i h1)
    · intro j hj
      rw [Nat.testBit_or, lo_bit s j hj, Nat.testBit_two_pow]
      by_cases h : (j : Int) = i
      · subst h; simp
      · simp [h, show ¬ i.toNat = j by omega]
  rw [e]

theorem without_word (s i : Int) (h0 : 0 ≤ i) (h1 : i ≤ 30) : bits .andNot .i64 (bits .and .i64 s 2147483647) (wrap64 (2 ^ i.toNat)) = putZ s i false := by
  rw [and_all, wrap_pow i h1]
  unfold putZ
  apply andNot_nat _ _ (lo_lt s) _ (by have := pow_lt31 i h1; omega)
  intro j hj
  rw [lo_bit s j hj, Nat.testBit_two_pow]
  by_cases h : (j : Int) = i
  · subst h; simp
  · simp [h, show ¬ i.toNat = j by omega]

theorem set_truths (s : Int) (n : Nat) (is : Bool) (_hn : n ≤ 30) : ((sumB (((List.range 31).map (hasN s)).set n is) : Nat) : Int) = putZ s n is := by
  unfold putZ
  have e : sumB (((List.range 31).map (hasN s)).set n is) = ofB fun j => if (j : Int) = (n : Int) then is else hasN s j := by
    apply eq_ofB
    · have := sumB_lt (((List.range 31).map (hasN s)).set n is)
      simpa using this
    · intro j hj
      rw [sumB_bit, List.getD_eq_getElem?_getD, List.getElem?_set]
      by_cases h : n = j
      · subst h; simp [hj]
      · simp [h, hj, show ¬ (j : Int) = (n : Int) by omega]
  rw [e]

theorem sum_truths (s : Int) : sumB ((List.range 31).map (hasN s)) = lo s := by rw [lo_ofB]; rfl

def ofL (l : List Int) : Int := l.foldl (fun s i => putZ s i true) 0
theorem ofL_snoc (l : List Int) (i : Int) : ofL (l ++ [i]) = putZ (ofL l) i true := by simp [ofL, List.foldl_append]

theorem ofL_ofB (l : List Int) : ofL l = (ofB fun j => decide ((j : Int) ∈ l) : Nat) := by
  have key : ∀ (m : List Int) (f : Nat → Bool), m.foldl (fun s i => putZ s i true) ((ofB f : Nat) : Int) = (ofB fun j => f j || decide ((j : Int) ∈ m) : Nat) := by
    intro m
    induction m with
    | nil => intro f; simp
    | cons i r ih =>
      intro f
      simp only [List.foldl_cons]
      unfold putZ
      rw [ofB_congr _ (fun j => f j || decide ((j : Int) = i)) (by
        intro j hj
        rw [hasN_ofB f j hj]
        by_cases h : (j : Int) = i <;> simp [h])]
      have := ih (fun j => f j || decide ((j : Int) = i))
      unfold putZ at this
      rw [this]
      rw [ofB_congr (fun j => (f j || decide ((j : Int) = i)) || decide ((j : Int) ∈ r)) (fun j => f j || decide ((j : Int) ∈ i :: r)) (by
        intro j _
        by_cases h : (j : Int) = i <;> simp [h])]
  have z : ((ofB fun _ => false : Nat) : Int) = 0 := by decide
  have := key l (fun _ => false)
  rw [z] at this
  unfold ofL
  rw [this]
  rw [ofB_congr (fun j => false || decide ((j : Int) ∈ l)) (fun j => decide ((j : Int) ∈ l)) (by intro j _; simp)]

theorem bits64_lo (b : Int) (j : Nat) (hj : j < 31) : (BitVec.ofInt 64 b).getLsbD j = hasN b j := by
  show (BitVec.ofInt 64 b).toNat.testBit j = _
  rw [ofInt64_toNat, ← lo_bit b j hj]
  have e : lo b = (b % 18446744073709551616).toNat % 2 ^ 31 := by unfold lo; simp only [Nat.reducePow]; omega
  rw [e, Nat.testBit_mod_two_pow]; simp [hj]

theorem within_word (a b : Int) : bits .andNot .i64 (bits .and .i64 a 2147483647) b = (ofB (fun j => hasN a j && !hasN b j) : Nat) := by
  rw [and_all]
  show IntKind.i64.wrap ((BitVec.ofInt 64 (lo a : Int) &&& ~~~BitVec.ofInt 64 b).toNat : Int) = _
  have hl := lo_lt a
  have h1 : (BitVec.ofInt 64 (lo a : Int) &&& ~~~BitVec.ofInt 64 b).toNat = ofB (fun j => hasN a j && !hasN b j) := by
    apply eq_ofB
    · rw [BitVec.toNat_and, ofInt64_nat _ (by omega)]
      exact Nat.lt_of_le_of_lt Nat.and_le_left hl
    · intro j hj
      have e : (BitVec.ofInt 64 (lo a : Int) &&& ~~~BitVec.ofInt 64 b).toNat.testBit j = (BitVec.ofInt 64 (lo a : Int) &&& ~~~BitVec.ofInt 64 b).getLsbD j := rfl
      rw [e, BitVec.getLsbD_and, BitVec.getLsbD_not, bits64_lo b j hj]
      have e1 : (BitVec.ofInt 64 (lo a : Int)).getLsbD j = (lo a).testBit j := by
        show (BitVec.ofInt 64 (lo a : Int)).toNat.testBit j = _; rw [ofInt64_nat _ (by omega)]
      rw [e1, lo_bit a j hj]; simp [show j < 64 by omega]
  rw [h1]
  have := ofB_lt (fun j => hasN a j && !hasN b j)
  exact wrap_i64_in _ (by omega) (by omega)

def withinB (a b : Int) : Bool := (List.range 31).all fun j => !hasN a j || hasN b j

theorem within_zero (a b : Int) : (((ofB (fun j => hasN a j && !hasN b j) : Nat) : Int) == 0) = withinB a b := by
  rw [Bool.eq_iff_iff, beq_iff_eq]
  unfold withinB
  rw [List.all_eq_true]
  constructor
  · intro h j hj
    have hj' : j < 31 := by simpa using hj
    have h0 : ofB (fun j => hasN a j && !hasN b j) = 0 := by omega
    have := ofB_bit (fun j => hasN a j && !hasN b j) j
    rw [h0] at this
    simp [hj'] at this
    cases h1 : hasN a j
    · simp
    · simp [this h1]
  · intro h
    have : ofB (fun j => hasN a j && !hasN b j) = 0 := by
      apply Nat.eq_of_testBit_eq
      intro j
      rw [ofB_bit]
      by_cases hj : j < 31
      · have := h j (by simpa using hj)
        cases h1 : hasN a j <;> simp_all
      · simp [hj]
    omega

/-- so many numbers -/
def clamp (n : Int) : Nat := (max 0 (min n 31)).toNat
def firstZ (n : Int) : Int := (2 ^ clamp n - 1 : Nat)
theorem clamp_le (n : Int) : clamp n ≤ 31 := by unfold clamp; omega

theorem hasN_first (n : Int) (j : Nat) (hj : j < 31) : hasN (firstZ n) j = decide (j < clamp n) := by
  have hc := clamp_le n
  unfold firstZ
  have hp : (2 : Nat) ^ clamp n ≤ 2 ^ 31 := Nat.pow_le_pow_right (by omega) hc
  have hp' : 2 ^ clamp n - 1 < 2147483648 := by have : (2 : Nat) ^ 31 = 2147483648 := by decide
                                                have := Nat.one_le_two_pow (n := clamp n); omega
  have e : lo ((2 ^ clamp n - 1 : Nat) : Int) = 2 ^ clamp n - 1 := by
    generalize 2 ^ clamp n - 1 = m at *
    unfold lo; omega
  rw [← lo_bit _ j hj, e, Nat.testBit_two_pow_sub_one]

end Go.Proofs.YtadjnfpomjopkaaGreat

namespace Go.Proofs.YtadjnfpomjopkaaGreat
open Go.RowKit

/-- a state of a case -/
structure Sta where
  vals : List Int
  opn : Int
  dne : Int
  did : List Int
  cnt : List Int

def itI (x : Ins) : It := ⟨x.op, ⟨#[]⟩, 0, ⟨#[]⟩, 0, ⟨#[]⟩, ⟨#[]⟩, 0, 0⟩
def thereV (s : Sta) (v : Int × Int) : Bool := decide (-1 ≤ v.1) && decide (v.1 < (s.vals.length : Int))
def valV (s : Sta) (v : Int × Int) : Int := if v.1 = -1 then v.2 else s.vals.getD v.1.toNat 0
def cmpI (a b : Int) : Int := if a < b then -1 else if b < a then 1 else 0
def soB (op c : Int) : Bool :=
  if op = 3 then decide (c < 0) else if op = 4 then decide (c ≤ 0) else if op = 5 then decide (0 < c) else if op = 6 then decide (0 ≤ c) else if op = 7 then decide (c = 0) else if op = 8 then decide (c ≠ 0) else false
def cmpB (op a b : Int) : Bool :=
  if op = 3 then decide (a < b) else if op = 4 then decide (a ≤ b) else if op = 5 then decide (b < a) else if op = 6 then decide (b ≤ a) else if op = 7 then decide (a = b) else if op = 8 then decide (a ≠ b) else false
theorem soB_cmp (op a b : Int) : soB op (cmpI a b) = cmpB op a b := by
  unfold soB cmpB cmpI
  by_cases h1 : a < b
  · rw [if_pos h1]
    repeat' split
    all_goals simp; try omega
  rw [if_neg h1]
  by_cases h2 : b < a
  · rw [if_pos h2]
    repeat' split
    all_goals simp; try omega
  · rw [if_neg h2]
    repeat' split
    all_goals simp; try omega
/-- what an instruction that is put of nothing says -/
def atomI (s : Sta) (x : Ins) : Option Bool :=
  if x.op = 1 then some true
  else if x.op = 2 then some false
  else if 3 ≤ x.op ∧ x.op ≤ 8 then (if (thereV s x.l && thereV s x.r) = true then some (cmpB x.op (valV s x.l) (valV s x.r)) else none)
  else if x.op = 9 then some (hasB s.opn x.n)
  else if x.op = 10 then some (hasB s.dne x.n)
  else none
def opB (op : Int) (l r : Bool) : Bool := (l && r) || (decide (op = 17) && (l || r)) || (decide (op = 18) && !l)
/-- an instruction put on a row of truths, the last one first -/
def askS (s : Sta) (x : Ins) (R : List Bool) : Option (List Bool) :=
  if x.op = 15 then (match R with | a :: T => some ((!a) :: T) | [] => none)
  else if 16 ≤ x.op ∧ x.op ≤ 18 then (match R with | r :: l :: T => some (opB x.op l r :: T) | _ => none)
  else (match atomI s x with | some b => some (b :: R) | none => none)
def askL (s : Sta) : List Ins → List Bool → Option (List Bool)
  | [], R => some R
  | x :: r, R => match askS s x R with | some S => askL s r S | none => none
theorem askL_snoc (s : Sta) (x : Ins) : ∀ (l : List Ins) (R : List Bool), askL s (l ++ [x]) R = match askL s l R with | some S => askS s x S | none => none
  | [], R => by
    simp only [List.nil_append, askL]
    cases askS s x R <;> rfl
  | y :: l, R => by
    rw [List.cons_append, askL, askL]
    cases askS s y R with
    | none => rfl
    | some S => exact askL_snoc s x l S
/-- a condition's truth; none: it is not in its form -/
def condO (l : List Ins) (s : Sta) : Option Bool :=
  if chkN (l.map itI) = 0 then (match askL s l [] with | some (b :: _) => some b | _ => none) else none

/-! by the tree -/
def okI (s : Sta) (x : Ins) : Bool := !(decide (18 < x.op) || (decide (10 < x.op) && decide (x.op < 15)) || (decide (3 ≤ x.op) && decide (x.op ≤ 8) && (!thereV s x.l || !thereV s x.r)))
def insAt (l : List Ins) (i : Nat) : Ins := l.getD i ⟨0, (0, 0), (0, 0), 0, 0⟩
def evF (s : Sta) (l : List Ins) : Fm → Nat → Bool
  | .leaf _ _, a => match atomI s (insAt l a) with | some b => b | none => false
  | .one _ _ f, a => !evF s l f a
  | .two x _ f g, a => opB x.op (evF s l f a) (evF s l g (a + f.flat.length))
theorem drop_cons {α : Type} {l : List α} {a : Nat} {x : α} {r : List α} (h : l.drop a = x :: r) : a < l.length ∧ l[a]? = some x ∧ r = l.drop (a + 1) := by
  have hl : a < l.length := by
    rcases Nat.lt_or_ge a l.length with q | q
    · exact q
    · rw [List.drop_eq_nil_of_le q] at h; cases h
  have := List.drop_eq_getElem_cons hl
  rw [this] at h
  obtain ⟨rfl, rfl⟩ := List.cons.inj h
  exact ⟨hl, List.getElem?_eq_getElem hl, rfl⟩
theorem insAt_of {l : List Ins} {a : Nat} {x : Ins} (h : l[a]? = some x) : insAt l a = x := by unfold insAt; rw [List.getD_eq_getElem?_getD, h]; rfl
theorem ar0 {op : Int} (h : arN op = 0) : 1 ≤ op ∧ op ≤ 14 := by
  unfold arN at h
  split at h
  · assumption
  split at h
  · omega
  split at h <;> omega
theorem ar1 {op : Int} (h : arN op = 1) : op = 15 ∨ (19 ≤ op ∧ op ≤ 24) := by
  unfold arN at h
  split at h
  · omega
  split at h
  · assumption
  split at h <;> omega
theorem ar2 {op : Int} (h : arN op = 2) : (16 ≤ op ∧ op ≤ 18) ∨ op = 25 ∨ op = 26 := by
  unfold arN at h
  split at h
  · omega
  split at h
  · omega
  split at h
  · assumption
  · omega
theorem okI_atom {s : Sta} {x : Ins} (h : arN x.op = 0) : atomI s x = if okI s x = true then some (match atomI s x with | some b => b | none => false) else none := by
  have := ar0 h
  unfold okI
  by_cases h10 : 10 < x.op
  · have e : atomI s x = none := by
      unfold atomI
      rw [if_neg (by omega), if_neg (by omega), if_neg (by omega), if_neg (by omega), if_neg (by omega)]
    rw [e, decide_eq_true h10, decide_eq_true (show x.op < 15 by omega)]
    simp
  rw [decide_eq_false (show ¬ 18 < x.op by omega), decide_eq_false h10]
  by_cases h38 : 3 ≤ x.op ∧ x.op ≤ 8
  · rw [decide_eq_true h38.1, decide_eq_true h38.2]
    unfold atomI
    rw [if_neg (by omega), if_neg (by omega), if_pos h38]
    cases thereV s x.l <;> cases thereV s x.r <;> rfl
  · have hd : (decide (3 ≤ x.op) && decide (x.op ≤ 8)) = false := by
      cases e : (decide (3 ≤ x.op) && decide (x.op ≤ 8))
      · rfl
      · simp only [Bool.and_eq_true, decide_eq_true_eq] at e; exact absurd e h38
    rw [hd]
    have : ∃ b, atomI s x = some b := by
      unfold atomI
      by_cases q1 : x.op = 1
      · exact ⟨_, if_pos q1⟩
      by_cases q2 : x.op = 2
      · exact ⟨_, by rw [if_neg q1, if_pos q2]⟩
      rw [if_neg q1, if_neg q2, if_neg h38]
      by_cases q9 : x.op = 9
      · exact ⟨_, if_pos q9⟩
      · exact ⟨_, by rw [if_neg q9, if_pos (by omega)]⟩
    obtain ⟨b, e⟩ := this
    rw [e]; rfl
theorem ask_leaf (s : Sta) (x : Ins) (R : List Bool) (h : arN x.op = 0) : askS s x R = match atomI s x with | some b => some (b :: R) | none => none := by
  have := ar0 h
  unfold askS
  rw [if_neg (by omega), if_neg (by omega)]
theorem ask_bad (s : Sta) (x : Ins) (R : List Bool) (h : 19 ≤ x.op) : askS s x R = none := by
  unfold askS
  rw [if_neg (by omega), if_neg (by omega)]
  unfold atomI
  rw [if_neg (by omega), if_neg (by omega), if_neg (by omega), if_neg (by omega), if_neg (by omega)]
theorem okI_bad {s : Sta} {x : Ins} (h : 19 ≤ x.op) : okI s x = false := by
  unfold okI
  rw [decide_eq_true (show 18 < x.op by omega)]; simp
theorem okI_good {s : Sta} {x : Ins} (h : 15 ≤ x.op ∧ x.op ≤ 18) : okI s x = true := by
  unfold okI
  rw [decide_eq_false (show ¬ 18 < x.op by omega), decide_eq_false (show ¬ x.op < 15 by omega), decide_eq_false (show ¬ x.op ≤ 8 by omega)]; simp
/-- what lies there as a tree, asked by a row of truths -/
theorem ask_tree (s : Sta) (l : List Ins) : ∀ (f : Fm) (a : Nat) (r : List It) (R : List Bool), (l.drop a).map itI = f.flat ++ r →
    askL s (l.drop a) R = if ((l.drop a).take f.flat.length).all (okI s) = true then askL s (l.drop (a + f.flat.length)) (evF s l f a :: R) else none
  | .leaf x h, a, r, R, hd => by
    cases hl : l.drop a with
    | nil => rw [hl] at hd; simp [Fm.flat] at hd
    | cons y t =>
      rw [hl] at hd
      simp only [List.map_cons, Fm.flat, List.cons_append, List.nil_append, List.cons.injEq] at hd
      obtain ⟨hy, _⟩ := hd
      obtain ⟨hlt, hg, ht⟩ := drop_cons hl
      have hop : arN y.op = 0 := by rw [← hy] at h; exact h
      rw [askL, ask_leaf s y R hop, okI_atom hop]
      have e1 : ((y :: t).take (Fm.leaf x h).flat.length).all (okI s) = okI s y := by simp [Fm.flat]
      rw [e1, ht]
      have e2 : evF s l (Fm.leaf x h) a = match atomI s y with | some b => b | none => false := by rw [evF, insAt_of hg]
      rw [e2]
      cases hk : okI s y <;> rfl
  | .one x h f, a, r, R, hd => by
    have hd' : (l.drop a).map itI = f.flat ++ (x :: r) := by rw [hd, Fm.flat, List.append_assoc]; rfl
    rw [ask_tree s l f a _ R hd']
    have hlen : (Fm.one x h f).flat.length = f.flat.length + 1 := by simp [Fm.flat]
    have hx : (l.drop (a + f.flat.length)).map itI = x :: r := by
      rw [← List.drop_drop, List.map_drop, hd', List.drop_left]
    cases hl : l.drop (a + f.flat.length) with
    | nil => rw [hl] at hx; simp at hx
    | cons y t =>
      rw [hl] at hx
      simp only [List.map_cons, List.cons.injEq] at hx
      obtain ⟨hlt, hg, ht⟩ := drop_cons hl
      have hop : arN y.op = 1 := by rw [← hx.1] at h; exact h
      have htk : (l.drop a).take (f.flat.length + 1) = (l.drop a).take f.flat.length ++ [y] := by
        rw [List.take_add_one, List.getElem?_drop, hg]; rfl
      rw [hlen, htk, List.all_append]
      have e1 : [y].all (okI s) = okI s y := by simp
      rw [e1, askL, ← Nat.add_assoc]
      rcases ar1 hop with q | q
      · have e2 : askS s y (evF s l f a :: R) = some ((!evF s l f a) :: R) := by unfold askS; rw [if_pos q]
        rw [okI_good (by omega), Bool.and_true, e2, ht]
        rfl
      · rw [okI_bad q.1, ask_bad _ _ _ q.1, Bool.and_false]
        simp
  | .two x h f g, a, r, R, hd => by
    have hd' : (l.drop a).map itI = f.flat ++ (g.flat ++ (x :: r)) := by rw [hd, Fm.flat, List.append_assoc, List.append_assoc]; rfl
    rw [ask_tree s l f a _ R hd']
    have hlen : (Fm.two x h f g).flat.length = f.flat.length + g.flat.length + 1 := by simp [Fm.flat]; omega
    have hx : (l.drop (a + f.flat.length)).map itI = g.flat ++ (x :: r) := by
      rw [← List.drop_drop, List.map_drop, hd', List.drop_left]
    rw [ask_tree s l g (a + f.flat.length) _ _ hx]
    have hx2 : (l.drop (a + f.flat.length + g.flat.length)).map itI = x :: r := by
      rw [← List.drop_drop, List.map_drop, hx, List.drop_left]
    cases hl : l.drop (a + f.flat.length + g.flat.length) with
    | nil => rw [hl] at hx2; simp at hx2
    | cons y t =>
      rw [hl] at hx2
      simp only [List.map_cons, List.cons.injEq] at hx2
      obtain ⟨hlt, hg, ht⟩ := drop_cons hl
      have hop : arN y.op = 2 := by rw [← hx2.1] at h; exact h
      have hyx : y.op = x.op := by rw [← hx2.1]; rfl
      have htk : (l.drop a).take (f.flat.length + g.flat.length + 1) = (l.drop a).take f.flat.length ++ (l.drop (a + f.flat.length)).take g.flat.length ++ [y] := by
        rw [List.take_add_one, List.getElem?_drop, ← Nat.add_assoc, hg, List.take_add, List.drop_drop]; rfl
      rw [hlen, htk, List.all_append, List.all_append]
      have e1 : [y].all (okI s) = okI s y := by simp
      rw [e1, askL, ← Nat.add_assoc, ← Nat.add_assoc]
      rcases ar2 hop with q | q
      · have e2 : askS s y (evF s l g (a + f.flat.length) :: evF s l f a :: R) = some (opB y.op (evF s l f a) (evF s l g (a + f.flat.length)) :: R) := by unfold askS; rw [if_neg (by omega), if_pos q]
        rw [okI_good (by omega), Bool.and_true, e2, ht, evF, hyx]
        cases ((l.drop a).take f.flat.length).all (okI s) <;> cases ((l.drop (a + f.flat.length)).take g.flat.length).all (okI s) <;> rfl
      · rw [okI_bad (by omega), ask_bad _ _ _ (by omega), Bool.and_false]
        simp
theorem condO_tree {s : Sta} {l : List Ins} {f : Fm} (h : f.flat = l.map itI) (h0 : chkN (l.map itI) = 0) : condO l s = if l.all (okI s) = true then some (evF s l f 0) else none := by
  unfold condO
  rw [if_pos h0]
  have := ask_tree s l f 0 [] [] (by rw [List.drop_zero, List.append_nil, h])
  rw [List.drop_zero, Nat.zero_add] at this
  have hl : f.flat.length = l.length := by rw [h, List.length_map]
  rw [this, hl, List.take_length, List.drop_length]
  cases l.all (okI s) <;> rfl
theorem condO_bad {s : Sta} {l : List Ins} (h0 : chkN (l.map itI) ≠ 0) : condO l s = none := by unfold condO; rw [if_neg h0]
theorem opB_and (l r : Bool) : opB 16 l r = (l && r) := by cases l <;> cases r <;> rfl
theorem opB_or (l r : Bool) : opB 17 l r = (l || r) := by cases l <;> cases r <;> rfl
theorem opB_imp (l r : Bool) : opB 18 l r = (!l || r) := by cases l <;> cases r <;> rfl
end Go.Proofs.YtadjnfpomjopkaaGreat

namespace Go.Proofs.YtadjnfpomjopkaaGreat
open Go.RowKit

def inL (l : List Int) (i : Int) : Bool := decide (0 ≤ i) && decide (i < (l.length : Int))
theorem inL_iff {l : List Int} {i : Int} : inL l i = true ↔ 0 ≤ i ∧ i < (l.length : Int) := by unfold inL; simp
def atL (l : List Int) (i : Int) : Int := l.getD i.toNat 0
/-- one step up, as it lies there -/
def rawU (l : List Int) (i : Int) : Nat → Int
  | 0 => i
  | k + 1 => if inL l (rawU l i k) = true then atL l (rawU l i k) else -1
/-- the place so many steps up; -1: there is none -/
def upW (l : List Int) (i : Int) (k : Nat) : Int := if inL l (rawU l i k) = true then rawU l i k else -1
def isUp (l : List Int) (a i : Int) : Bool := (List.range l.length).any fun k => decide (0 ≤ a) && decide (upW l i (k + 1) = a)
/-- what a place lies in -/
def inU (l : List Int) (i : Int) : Option Int := if inL l i = true then (if inL l (atL l i) = true then some (atL l i) else none) else none
theorem inL_neg (l : List Int) : inL l (-1) = false := by unfold inL; simp
theorem rawU_out {l : List Int} {i : Int} {k : Nat} (h : inL l (rawU l i k) = false) : ∀ j, inL l (rawU l i (k + j)) = false
  | 0 => h
  | j + 1 => by
    show inL l (rawU l i (k + j + 1)) = false
    rw [rawU, rawU_out h j, if_neg (by decide)]
    exact inL_neg l
theorem inU_raw {l : List Int} {i : Int} {k : Nat} {p : Int} (h : inU l (rawU l i k) = some p) : rawU l i (k + 1) = p ∧ inL l p = true := by
  unfold inU at h
  split at h
  · rename_i h1
    split at h
    · rename_i h2
      cases h
      exact ⟨by rw [rawU, if_pos h1], h2⟩
    · cases h
  · cases h
theorem inU_none {l : List Int} {i : Int} {k : Nat} (h : inU l (rawU l i k) = none) : inL l (rawU l i (k + 1)) = false := by
  unfold inU at h
  split at h
  · rename_i h1
    split at h
    · cases h
    · rename_i h2
      rw [rawU, if_pos h1]; simpa using h2
  · rename_i h1
    rw [rawU, if_neg h1]; exact inL_neg l
/-- what is found above: so many steps, none twice, nor the first one -/
structure AbvI (l : List Int) (i : Int) (out : List Int) (at_ : Int) : Prop where
  steps : ∀ j, j < out.length → out[j]? = some (rawU l i (j + 1)) ∧ inL l (rawU l i (j + 1)) = true
  here : at_ = rawU l i out.length
  nodup : out.Nodup
  first : i ∉ out
theorem AbvI.start (l : List Int) (i : Int) : AbvI l i [] i := ⟨fun j h => by simp at h, rfl, List.nodup_nil, by simp⟩
theorem AbvI.step {l : List Int} {i : Int} {out : List Int} {a p : Int} (h : AbvI l i out a) (hp : inU l a = some p) (h1 : p ≠ i) (h2 : p ∉ out) : AbvI l i (out ++ [p]) p := by
  obtain ⟨hs, hh, hn, hf⟩ := h
  rw [hh] at hp
  obtain ⟨hr, hi⟩ := inU_raw hp
  refine ⟨fun j hj => ?_, ?_, ?_, ?_⟩
  · rw [List.length_append, List.length_singleton] at hj
    by_cases hjl : j < out.length
    · rw [List.getElem?_append_left hjl]; exact hs j hjl
    · have : j = out.length := by omega
      subst this
      rw [List.getElem?_append_right (Nat.le_refl _), Nat.sub_self, hr]
      exact ⟨rfl, hi⟩
  · rw [List.length_append, List.length_singleton, hr]
  · rw [List.nodup_append]
    refine ⟨hn, List.nodup_cons.2 ⟨List.not_mem_nil, List.nodup_nil⟩, fun a ha b hb e => ?_⟩
    have hb' : b = p := by simpa using hb
    rw [e, hb'] at ha
    exact h2 ha
  · intro hc
    rcases List.mem_append.1 hc with hc | hc
    · exact hf hc
    · have hc' : i = p := by simpa using hc
      exact h1 hc'.symm
theorem nodup_bound (l : List Int) (n : Nat) (h : l.Nodup) (hb : ∀ x ∈ l, 0 ≤ x ∧ x < (n : Int)) : l.length ≤ n := by
  have h1 : (l.map Int.toNat).Nodup := by
    rw [List.nodup_iff_pairwise_ne] at h ⊢
    rw [List.pairwise_map]
    refine List.Pairwise.imp_of_mem (fun {a b} ha hb' hne => ?_) h
    have := hb a ha; have := hb b hb'
    omega
  have h2 : (l.map Int.toNat) ⊆ List.range n := by
    intro x hx
    obtain ⟨y, hy, rfl⟩ := List.mem_map.1 hx
    have := hb y hy
    exact List.mem_range.2 (by omega)
  have := h1.length_le_of_subset h2
  simpa using this
theorem AbvI.range {l : List Int} {i : Int} {out : List Int} {a : Int} (h : AbvI l i out a) : ∀ x ∈ out, inL l x = true := by
  intro x hx
  obtain ⟨j, hj, rfl⟩ := List.mem_iff_getElem.1 hx
  obtain ⟨e, hi⟩ := h.steps j hj
  rw [List.getElem?_eq_getElem hj] at e
  rw [Option.some.inj e]; exact hi
theorem AbvI.len {l : List Int} {i : Int} {out : List Int} {a : Int} (h : AbvI l i out a) : out.length ≤ l.length :=
  nodup_bound out l.length h.nodup fun x hx => inL_iff.1 (h.range x hx)
/-- where nothing more comes, all that lies above was found -/
theorem AbvI.all {l : List Int} {i : Int} {out : List Int} {a : Int} (h : AbvI l i out a) (he : inU l a = none ∨ ∃ p, inU l a = some p ∧ (p = i ∨ p ∈ out)) :
    ∀ m, inL l (rawU l i (m + 1)) = true → rawU l i (m + 1) = i ∨ rawU l i (m + 1) ∈ out := by
  -- the places that come are i, those of out, or none
  have key : ∀ m, inL l (rawU l i m) = true → rawU l i m = i ∨ rawU l i m ∈ out := by
    intro m
    induction m with
    | zero => exact fun _ => .inl rfl
    | succ m ih =>
      intro hin
      have hprev : inL l (rawU l i m) = true := by
        cases e : inL l (rawU l i m)
        · have := rawU_out e 1
          rw [hin] at this; cases this
        · rfl
      have next : ∀ x, rawU l i m = x → inL l x = true → rawU l i (m + 1) = atL l x := by
        intro x hx hxi
        rw [rawU, hx, if_pos hxi]
      have fromK : ∀ k, k ≤ out.length → rawU l i m = rawU l i k → rawU l i (m + 1) = i ∨ rawU l i (m + 1) ∈ out := by
        intro k hk hkm
        have hkin : inL l (rawU l i k) = true := by rw [← hkm]; exact hprev
        have hnx : rawU l i (m + 1) = rawU l i (k + 1) := by rw [rawU, rawU, hkm]
        rcases Nat.lt_or_ge k out.length with hlt | hge
        · obtain ⟨e, _⟩ := h.steps k hlt
          exact .inr (by rw [hnx]; exact List.mem_of_getElem? e)
        · have hke : k = out.length := by omega
          subst hke
          rw [← h.here] at hkin
          rw [hnx]
          rw [h.here] at he hkin
          rcases he with he | ⟨p, hp, hpp⟩
          · have := inU_none he
            rw [← hnx, hin] at this; cases this
          · rw [(inU_raw hp).1]
            exact hpp
      rcases ih hprev with e | hm
      · exact fromK 0 (Nat.zero_le _) (by rw [e]; rfl)
      · obtain ⟨j, hj, hje⟩ := List.mem_iff_getElem.1 hm
        obtain ⟨e, _⟩ := h.steps j hj
        rw [List.getElem?_eq_getElem hj] at e
        exact fromK (j + 1) (by omega) (by rw [← hje]; exact Option.some.inj e)
  exact fun m hm => key (m + 1) hm
theorem AbvI.is {l : List Int} {i : Int} {out : List Int} {a : Int} (h : AbvI l i out a) (he : inU l a = none ∨ ∃ p, inU l a = some p ∧ (p = i ∨ p ∈ out)) (st : Int) (hst : 0 ≤ st) (hne : i ≠ st) :
    (st ∈ out) ↔ isUp l st i = true := by
  unfold isUp
  rw [List.any_eq_true]
  constructor
  · intro hm
    obtain ⟨j, hj, hje⟩ := List.mem_iff_getElem.1 hm
    obtain ⟨e, hi⟩ := h.steps j hj
    rw [List.getElem?_eq_getElem hj] at e
    have hr : rawU l i (j + 1) = st := by rw [← hje]; exact (Option.some.inj e).symm
    refine ⟨j, List.mem_range.2 (Nat.lt_of_lt_of_le hj h.len), ?_⟩
    unfold upW
    rw [if_pos hi, hr]
    simp [hst]
  · rintro ⟨k, _, hk⟩
    simp only [Bool.and_eq_true, decide_eq_true_eq] at hk
    have hin : inL l (rawU l i (k + 1)) = true := by
      cases e : inL l (rawU l i (k + 1))
      · have := hk.2
        unfold upW at this
        rw [e, if_neg (by decide)] at this
        omega
      · rfl
    have hr : rawU l i (k + 1) = st := by
      have := hk.2
      unfold upW at this
      rwa [if_pos hin] at this
    rcases h.all he k hin with q | q
    · exact absurd (q.symm.trans hr) hne
    · rw [← hr]; exact q
/-- what lies below a place -/
def belowL (l : List Int) (st : Int) : List Int := ((List.range l.length).filter fun k : Nat => decide ((k : Int) ≠ st) && isUp l st k).map fun k : Nat => (k : Int)
def belowN (l : List Int) (st : Int) (n : Nat) : List Int := ((List.range n).filter fun k : Nat => decide ((k : Int) ≠ st) && isUp l st k).map fun k : Nat => (k : Int)
theorem belowN_hit (l : List Int) (st : Int) (n : Nat) (h : (decide ((n : Int) ≠ st) && isUp l st n) = true) : belowN l st (n + 1) = belowN l st n ++ [(n : Int)] := by
  unfold belowN
  rw [List.range_succ, List.filter_append, List.map_append, List.filter_cons_of_pos (by exact h)]; rfl
theorem belowN_miss (l : List Int) (st : Int) (n : Nat) (h : (decide ((n : Int) ≠ st) && isUp l st n) = false) : belowN l st (n + 1) = belowN l st n := by
  unfold belowN
  rw [List.range_succ, List.filter_append, List.map_append, List.filter_cons_of_neg (by rw [h]; decide)]; simp
theorem belowN_len (l : List Int) (st : Int) (n : Nat) : (belowN l st n).length ≤ n := by
  unfold belowN
  rw [List.length_map]
  exact Nat.le_trans (List.length_filter_le _ _) (by simp)
end Go.Proofs.YtadjnfpomjopkaaGreat
