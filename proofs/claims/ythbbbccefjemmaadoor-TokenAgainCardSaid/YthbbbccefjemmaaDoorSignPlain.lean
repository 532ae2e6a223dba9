/- Plain: which two runes are a sign, as token finds it in a text of signs. -/
import Derived.Test.YthbbbccefjemmaaDoorRef02b
import Derived.Lib.IndexLaws
import Derived.Lib.Strings
import Derived.Lib.IndexMore
namespace Go.Proofs.YthbbbccefjemmaaDoor
open Go.RowKit

theorem encode_ascii (c : Int) (h0 : 0 ≤ c) (h1 : c < 128) : (Utf8.encode c).data.toList = [UInt8.ofNat c.toNat] := by
  unfold Utf8.encode Utf8.valid
  have h2 : (decide (0 ≤ c) && decide (c < 55296) || decide (57344 ≤ c) && decide (c ≤ 1114111)) = true := by simp; omega
  simp only [h2, if_true]
  rw [if_pos (by omega)]

theorem encode_high (c : Int) (h : ¬ (0 ≤ c ∧ c < 128)) : ∃ b ∈ (Utf8.encode c).data.toList, 128 ≤ b.toNat := by
  unfold Utf8.encode
  simp only
  obtain ⟨n, hn⟩ : ∃ n, (if Utf8.valid c = true then c.toNat else Utf8.runeError) = n := ⟨_, rfl⟩
  have hn1 : 128 ≤ n ∧ n ≤ 1114111 := by
    rw [← hn]
    unfold Utf8.valid Utf8.runeError
    split
    · rename_i hv; simp at hv; omega
    · omega
  rw [hn, if_neg (by omega)]
  split
  · exact ⟨UInt8.ofNat (192 + n / 64), by simp, by rw [UInt8.toNat_ofNat']; omega⟩
  · split
    · exact ⟨UInt8.ofNat (224 + n / 4096), by simp, by rw [UInt8.toNat_ofNat']; omega⟩
    · exact ⟨UInt8.ofNat (240 + n / 262144), by simp, by rw [UInt8.toNat_ofNat']; omega⟩

theorem prefix_sub {α : Type} [BEq α] [LawfulBEq α] {sub l : List α} (h : sub.isPrefixOf l = true) : ∀ b ∈ sub, b ∈ l := by
  intro b hb
  have := List.isPrefixOf_iff_prefix.1 h
  exact this.subset hb

theorem contains_mem {l sub : List UInt8} (h : Lib.contains l sub = true) : ∀ b ∈ sub, b ∈ l := by
  unfold Lib.contains at h
  replace h := of_decide_eq_true h
  induction l with
  | nil =>
    unfold Lib.index at h
    cases sub with
    | nil => intro b hb; simp at hb
    | cons a r => simp at h
  | cons x r ih =>
    unfold Lib.index at h
    intro b hb
    by_cases hp : sub.isPrefixOf (x :: r) = true
    · exact prefix_sub hp b hb
    · rw [if_neg hp] at h
      by_cases h1 : (Lib.index r sub == -1) = true
      · rw [if_pos h1] at h; omega
      · rw [if_neg h1] at h
        have h3 : Lib.index r sub ≠ -1 := by simpa using h1
        exact List.mem_cons_of_mem _ (ih (by omega) b hb)

def twosT : List UInt8 := [32, 60, 61, 32, 62, 61, 32, 33, 61, 32]
theorem twos_ascii (C D : UInt8) : Lib.contains twosT [32, C, D, 32] = ((C == 60 || C == 62 || C == 33) && D == 61) := by
  unfold Lib.contains twosT
  by_cases h0 : D = 61
  · subst h0
    by_cases h1 : C = 60
    · subst h1; decide
    · by_cases h2 : C = 62
      · subst h2; decide
      · by_cases h3 : C = 33
        · subst h3; decide
        · simp [Lib.index, List.isPrefixOf, h1, h2, h3]
  · simp [Lib.index, List.isPrefixOf, h0]

theorem twos_is (c d : Int) : Lib.contains twosT ((⟨#[32]⟩ : ByteArray) ++ (Utf8.encode c ++ Utf8.encode d) ++ (⟨#[32]⟩ : ByteArray)).data.toList = decide (signN c d = 2) := by
  have e : ((⟨#[32]⟩ : ByteArray) ++ (Utf8.encode c ++ Utf8.encode d) ++ (⟨#[32]⟩ : ByteArray)).data.toList = 32 :: ((Utf8.encode c).data.toList ++ (Utf8.encode d).data.toList ++ [32]) := by simp [ByteArray.data_append]
  have hs : (signN c d = 2) ↔ ((c = 60 ∨ c = 62 ∨ c = 33) ∧ d = 61) := by
    unfold signN
    constructor
    · intro h
      by_cases hq : (c = 60 ∨ c = 62 ∨ c = 33) ∧ d = 61
      · exact hq
      · rw [if_neg hq] at h; split at h <;> omega
    · intro h; rw [if_pos h]
  rw [e, Bool.eq_iff_iff, decide_eq_true_iff, hs]
  by_cases hc : 0 ≤ c ∧ c < 128
  · by_cases hd : 0 ≤ d ∧ d < 128
    · rw [encode_ascii c hc.1 hc.2, encode_ascii d hd.1 hd.2]
      show Lib.contains twosT [32, _, _, 32] = true ↔ _
      rw [twos_ascii]
      have key : ∀ (x : Int) (k : Nat), 0 ≤ x → x < 128 → k < 128 → ((UInt8.ofNat x.toNat == UInt8.ofNat k) = true ↔ x = k) := by
        intro x k a b c
        rw [beq_iff_eq, ← UInt8.toNat_inj, UInt8.toNat_ofNat', UInt8.toNat_ofNat']
        omega
      rw [Bool.and_eq_true, Bool.or_eq_true, Bool.or_eq_true]
      rw [show (60 : UInt8) = UInt8.ofNat 60 from rfl, show (62 : UInt8) = UInt8.ofNat 62 from rfl, show (33 : UInt8) = UInt8.ofNat 33 from rfl, show (61 : UInt8) = UInt8.ofNat 61 from rfl]
      rw [key c 60 hc.1 hc.2 (by omega), key c 62 hc.1 hc.2 (by omega), key c 33 hc.1 hc.2 (by omega), key d 61 hd.1 hd.2 (by omega)]
      omega
    · obtain ⟨b, hb, hb2⟩ := encode_high d hd
      constructor
      · intro h
        have := contains_mem h b (by simp [hb])
        have hall : ∀ x ∈ twosT, x.toNat < 128 := by decide
        have := hall b this
        omega
      · intro h; omega
  · obtain ⟨b, hb, hb2⟩ := encode_high c hc
    constructor
    · intro h
      have := contains_mem h b (by simp [hb])
      have hall : ∀ x ∈ twosT, x.toNat < 128 := by decide
      have := hall b this
      omega
    · intro h; omega

def onesT : List UInt8 := [60, 62, 61, 40, 41, 91, 93, 44, 59]
theorem ones_is (c : Int) (h0 : 33 ≤ c) (h1 : c ≤ 126) : (0 ≤ Lib.indexByte onesT c.toNat.toUInt8) ↔ (c = 60 ∨ c = 62 ∨ c = 61 ∨ c = 40 ∨ c = 41 ∨ c = 91 ∨ c = 93 ∨ c = 44 ∨ c = 59) := by
  obtain ⟨n, rfl⟩ := Int.eq_ofNat_of_zero_le (show 0 ≤ c by omega)
  have key : ∀ k : Fin 127, (0 ≤ Lib.indexByte onesT (k.val : Int).toNat.toUInt8) ↔ ((k.val : Int) = 60 ∨ (k.val : Int) = 62 ∨ (k.val : Int) = 61 ∨ (k.val : Int) = 40 ∨ (k.val : Int) = 41 ∨ (k.val : Int) = 91 ∨ (k.val : Int) = 93 ∨ (k.val : Int) = 44 ∨ (k.val : Int) = 59) := by decide +kernel
  exact key ⟨n, by omega⟩

end Go.Proofs.YthbbbccefjemmaaDoor
