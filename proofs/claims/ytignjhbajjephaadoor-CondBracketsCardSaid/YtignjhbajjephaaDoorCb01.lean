/- Plain: places of tokens rise, only the last one is the end, and it alone has no text. Plain: a text within another one, behind which a line ends, has its own tokens there, but for places. Plain: the last token that is read is not the end. -/
import Derived.Test.YtignjhbajjephaaDoorCt37
import Derived.Test.YtignjhbajjephaaDoorCt07

namespace Go.Proofs.YtignjhbajjephaaDoor
open Go.RowKit

/-- a place ahead of another -/
def PLt (l c l' c' : Int) : Prop := l < l' ∨ (l = l' ∧ c < c')
theorem PLt.trans {a b c d e f : Int} (h : PLt a b c d) (h' : PLt c d e f) : PLt a b e f := by unfold PLt at *; omega

theorem next_lt (r line col : Int) : PLt line col (nextLine r line) (nextCol r col) := by
  unfold PLt nextLine nextCol; split <;> omega

theorem runesAt_low (g : Nat → Int) (s : ByteArray) (k p : Nat) (line col : Int) (x : Rn) (h : x ∈ runesAt g s k p line col) : (line = x.line ∧ col = x.col) ∨ PLt line col x.line x.col := by
  induction k generalizing p line col with
  | zero => simp [runesAt] at h
  | succ k ih =>
    simp only [runesAt] at h
    split at h
    · rcases List.mem_cons.1 h with rfl | h
      · exact .inl ⟨rfl, rfl⟩
      · refine .inr ?_
        rcases ih _ _ _ h with ⟨a, b⟩ | a
        · rw [← a, ← b]; exact next_lt _ _ _
        · exact (next_lt _ _ _).trans a
    · simp at h

theorem runesAt_rise (g : Nat → Int) (s : ByteArray) (k p : Nat) (line col : Int) : (runesAt g s k p line col).Pairwise (fun x y => PLt x.line x.col y.line y.col) := by
  induction k generalizing p line col with
  | zero => simp [runesAt]
  | succ k ih =>
    simp only [runesAt]
    split
    · refine List.pairwise_cons.2 ⟨fun y hy => ?_, ih _ _ _⟩
      rcases runesAt_low _ _ _ _ _ _ y hy with ⟨a, b⟩ | a
      · rw [← a, ← b]; exact next_lt _ _ _
      · exact (next_lt _ _ _).trans a
    · simp

theorem endAt_low (s : ByteArray) (k p : Nat) (line col : Int) : (line = (endAt s k p line col).1 ∧ col = (endAt s k p line col).2) ∨ PLt line col (endAt s k p line col).1 (endAt s k p line col).2 := by
  induction k generalizing p line col with
  | zero => exact .inl ⟨rfl, rfl⟩
  | succ k ih =>
    simp only [endAt]
    split
    · refine .inr ?_
      rcases ih (p + decN s p) (nextLine (decR s p) line) (nextCol (decR s p) col) with ⟨a, b⟩ | a
      · rw [← a, ← b]; exact next_lt _ _ _
      · exact (next_lt _ _ _).trans a
    · exact .inl ⟨rfl, rfl⟩

theorem runesAt_end (s : ByteArray) (k p : Nat) (line col : Int) (x : Rn) (h : x ∈ runesAt (decR s) s k p line col) : PLt x.line x.col (endAt s k p line col).1 (endAt s k p line col).2 := by
  induction k generalizing p line col with
  | zero => simp [runesAt] at h
  | succ k ih =>
    simp only [runesAt] at h
    simp only [endAt]
    split at h
    · rename_i hp
      rw [if_pos hp]
      rcases List.mem_cons.1 h with rfl | h
      · rcases endAt_low s k (p + decN s p) (nextLine (decR s p) line) (nextCol (decR s p) col) with ⟨a, b⟩ | a
        · show PLt line col _ _
          rw [← a, ← b]; exact next_lt _ _ _
        · exact (next_lt _ _ _).trans a
      · exact ih _ _ _ h
    · simp at h

theorem rune_lt {s : ByteArray} {i j : Nat} (hij : i < j) (hj : j < (allR s).length) : PLt (lineAt (allR s) i) (colAt (allR s) i) (lineAt (allR s) j) (colAt (allR s) j) := by
  have hi : i < (allR s).length := by omega
  have h := List.pairwise_iff_getElem.1 (runesAt_rise (decR s) s (s.size - 0) 0 1 1) i j hi hj hij
  have e1 := at_some (List.getElem?_eq_getElem hi)
  have e2 := at_some (List.getElem?_eq_getElem hj)
  rw [e1.2.2.2.1, e1.2.2.2.2, e2.2.2.2.1, e2.2.2.2.2]
  exact h
theorem rune_end {s : ByteArray} {i : Nat} (hi : i < (allR s).length) : PLt (lineAt (allR s) i) (colAt (allR s) i) (endL s) (endC s) := by
  have e1 := at_some (List.getElem?_eq_getElem hi)
  rw [e1.2.2.2.1, e1.2.2.2.2]
  exact runesAt_end s _ 0 1 1 _ (List.getElem_mem hi)

/-- what holds of the tokens that were taken up to a rune -/
structure Risen (s : ByteArray) (i : Nat) (T : List Tk) : Prop where
  rise : T.Pairwise (fun x y => PLt x.line x.col y.line y.col)
  low : ∀ x ∈ T, ∃ k, k < i ∧ k < (allR s).length ∧ x.line = lineAt (allR s) k ∧ x.col = colAt (allR s) k
  kind : ∀ x ∈ T, 1 ≤ x.kind ∧ x.kind ≤ 4
  text : ∀ x ∈ T, 0 < x.text.size

theorem Risen.snoc {s : ByteArray} {i j : Nat} {T : List Tk} (h : Risen s i T) (x : Tk) (hi : i < (allR s).length) (hij : i < j) (hl : x.line = lineAt (allR s) i) (hc : x.col = colAt (allR s) i) (hk : 1 ≤ x.kind ∧ x.kind ≤ 4) (ht : 0 < x.text.size) : Risen s j (T ++ [x]) := by
  refine ⟨List.pairwise_append.2 ⟨h.rise, List.pairwise_singleton _ _, ?_⟩, ?_, ?_, ?_⟩
  · intro y hy z hz
    rw [List.mem_singleton.1 hz, hl, hc]
    obtain ⟨k, hk1, hk2, e1, e2⟩ := h.low y hy
    rw [e1, e2]
    exact rune_lt hk1 hi
  · intro y hy
    rcases List.mem_append.1 hy with hy | hy
    · obtain ⟨k, a, b, c⟩ := h.low y hy; exact ⟨k, by omega, b, c⟩
    · rw [List.mem_singleton.1 hy]; exact ⟨i, hij, hi, hl, hc⟩
  · intro y hy
    rcases List.mem_append.1 hy with hy | hy
    · exact h.kind y hy
    · rw [List.mem_singleton.1 hy]; exact hk
  · intro y hy
    rcases List.mem_append.1 hy with hy | hy
    · exact h.text y hy
    · rw [List.mem_singleton.1 hy]; exact ht
theorem Risen.mono {s : ByteArray} {i j : Nat} {T : List Tk} (h : Risen s i T) (hij : i ≤ j) : Risen s j T :=
  ⟨h.rise, fun x hx => by obtain ⟨k, a, b⟩ := h.low x hx; exact ⟨k, by omega, b⟩, h.kind, h.text⟩

theorem sign_ascii {L : List Rn} {i : Nat} (hi : i < L.length) (hz : signN (rAt L i) (rAt L (i + 1)) ≠ 0) :
    (∀ k, k < signN (rAt L i) (rAt L (i + 1)) → 33 ≤ rAt L (i + k) ∧ rAt L (i + k) < 128) ∧ ∀ k, k < signN (rAt L i) (rAt L (i + 1)) → i + k < L.length := by
  unfold signN at hz ⊢
  by_cases hq : (rAt L i = 60 ∨ rAt L i = 62 ∨ rAt L i = 33) ∧ rAt L (i + 1) = 61
  · rw [if_pos hq]
    have hl : i + 1 < L.length := by
      by_cases hl : i + 1 < L.length
      · exact hl
      · rw [rAt_none (L := L) (i := i + 1) (by omega)] at hq; omega
    refine ⟨fun k hk => ?_, fun k hk => by omega⟩
    match k, hk with
    | 0, _ => rw [Nat.add_zero]; omega
    | 1, _ => omega
  · rw [if_neg hq] at hz ⊢
    split
    · rename_i h
      refine ⟨fun k hk => ?_, fun k hk => by omega⟩
      obtain rfl : k = 0 := by omega
      rw [Nat.add_zero]; omega
    · rename_i h; rw [if_neg h] at hz; exact absurd rfl hz

theorem word_text {s : ByteArray} {L : List Rn} {i : Nat} (hO : RnOk s L) (hi : i < L.length) (hl : letterB (rAt L i) = true) : (txt s L i (wordN L i)).size = wordN L i ∧ 1 ≤ wordN L i := by
  have hin : innerB (rAt L i) = true := by unfold innerB; rw [hl]; rfl
  obtain ⟨h1, h2, h3⟩ := row_facts (q := innerB) (by decide) hi hin
  exact ⟨hO.txtSize i (wordN L i) (fun k hk => inner_ascii (h3 k hk)) h2 h1, h1⟩

theorem tokT_risen {s : ByteArray} {i : Nat} {T : List Tk} (hO : RnOk s (allR s)) (h : Risen s i T) (hi : i < (allR s).length) (he : (tokT s (allR s) i T).er = 0) : Risen s (tokT s (allR s) i T).i (tokT s (allR s) i T).T := by
  have hon := tokT_on s (allR s) i T hi he
  unfold tokT at he hon ⊢
  by_cases hl : letterB (rAt (allR s) i) = true
  · rw [if_pos hl] at he hon ⊢
    have ht := word_text hO hi hl
    exact h.snoc _ hi hon.1 rfl rfl (by show 1 ≤ wordKind _ ∧ wordKind _ ≤ 4; unfold wordKind; split <;> omega) (by show 0 < (txt s (allR s) i (wordN (allR s) i)).size; omega)
  · rw [if_neg hl] at he hon ⊢
    by_cases hn : isNum (allR s) i = true
    · rw [if_pos hn] at he hon ⊢
      obtain ⟨_, _, h0, _⟩ := num_pre hO hi hn
      exact h.snoc _ hi hon.1 rfl rfl (by show (1 : Int) ≤ 3 ∧ (3 : Int) ≤ 4; omega) h0
    · rw [if_neg hn] at he hon ⊢
      unfold signT at he hon ⊢
      by_cases hs : signN (rAt (allR s) i) (rAt (allR s) (i + 1)) = 0
      · rw [if_pos hs] at he; simp at he
      · rw [if_neg hs] at hon ⊢
        obtain ⟨a, b⟩ := sign_ascii hi hs
        have := hO.txtSize i _ (fun k hk => by have := a k hk; omega) b (by omega)
        exact h.snoc _ hi hon.1 rfl rfl (by show (1 : Int) ≤ 4 ∧ (4 : Int) ≤ 4; omega) (by show 0 < (txt s (allR s) i (signN (rAt (allR s) i) (rAt (allR s) (i + 1)))).size; omega)

theorem oneT_risen {s : ByteArray} {i : Nat} {T : List Tk} (hO : RnOk s (allR s)) (h : Risen s i T) (hT : T.length ≤ 4096) (hi : i < (allR s).length) (he : (oneT s (allR s) i T).er = 0) : Risen s (oneT s (allR s) i T).i (oneT s (allR s) i T).T := by
  have hon := oneT_on s (allR s) i T hi hT he
  unfold oneT at he hon ⊢
  by_cases hb : blankB (rAt (allR s) i) = true
  · rw [if_pos hb]; exact h.mono (by show i ≤ i + 1; omega)
  · rw [if_neg hb] at he hon ⊢
    by_cases h35 : rAt (allR s) i = 35
    · rw [if_pos h35] at he hon ⊢
      unfold restT at he hon ⊢
      split
      · rename_i hq; rw [if_pos hq] at he; simp at he
      · rename_i hq; rw [if_neg hq] at hon; exact h.mono (by show i ≤ rowE restB (allR s) i; have := hon.1; simp only at this; omega)
    · rw [if_neg h35] at he hon ⊢
      unfold capT at he hon ⊢
      by_cases hr : (tokT s (allR s) i T).er ≠ 0
      · rw [if_pos hr] at he; exact absurd he hr
      · rw [if_neg hr] at he hon ⊢
        by_cases hc : 4096 < (tokT s (allR s) i T).T.length
        · rw [if_pos hc] at he; simp at he
        · rw [if_neg hc]
          exact tokT_risen hO h hi (by omega)

theorem runT_risen {s : ByteArray} (hO : RnOk s (allR s)) (k i : Nat) (T : List Tk) (h : Risen s i T) (hT : T.length ≤ 4096) (he : (runT s (allR s) k i T).er = 0) : ∃ j, Risen s j (runT s (allR s) k i T).T ∧ (runT s (allR s) k i T).T.length ≤ 4096 := by
  induction k generalizing i T with
  | zero => exact ⟨i, h, hT⟩
  | succ k ih =>
    rw [runT] at he ⊢
    by_cases hi : i < (allR s).length
    · rw [if_pos hi] at he ⊢
      by_cases h1 : (oneT s (allR s) i T).er ≠ 0
      · rw [if_pos h1] at he; exact absurd he h1
      · rw [if_neg h1] at he ⊢
        exact ih _ _ (oneT_risen hO h hT hi (by omega)) (oneT_on s (allR s) i T hi hT (by omega)).2 he
    · rw [if_neg hi]; exact ⟨i, h, hT⟩

/-- what a text's tokens are like -/
theorem tokRes_rises (s : ByteArray) (he : (tokRes s).er = 0) : ∃ R, (tokRes s).T = R ++ [endTk s] ∧ R.length ≤ 4096 ∧ (R ++ [endTk s]).Pairwise (fun x y => PLt x.line x.col y.line y.col) ∧ (∀ x ∈ R, 1 ≤ x.kind ∧ x.kind ≤ 4) ∧ ∀ x ∈ R, 0 < x.text.size := by
  unfold tokRes at he ⊢
  by_cases hl : 16384 < (allR s).length
  · rw [if_pos hl] at he; simp at he
  · rw [if_neg hl] at he ⊢
    by_cases h1 : (runT s (allR s) (allR s).length 0 []).er ≠ 0
    · rw [if_pos h1] at he; exact absurd he h1
    · rw [if_neg h1]
      obtain ⟨j, h, hlen⟩ := runT_risen (rnOk s (by omega)) (allR s).length 0 [] ⟨List.Pairwise.nil, by simp, by simp, by simp⟩ (by simp) (by omega)
      refine ⟨_, rfl, hlen, List.pairwise_append.2 ⟨h.rise, List.pairwise_singleton _ _, ?_⟩, h.kind, h.text⟩
      intro x hx y hy
      rw [List.mem_singleton.1 hy]
      obtain ⟨k, _, hk, e1, e2⟩ := h.low x hx
      rw [e1, e2]
      exact rune_end hk

theorem tokRes_bad (s : ByteArray) (he : (tokRes s).er ≠ 0) : (tokRes s).T = [] := by
  unfold tokRes at he ⊢
  by_cases hl : 16384 < (allR s).length
  · rw [if_pos hl]
  · rw [if_neg hl] at he ⊢
    by_cases h1 : (runT s (allR s) (allR s).length 0 []).er ≠ 0
    · rw [if_pos h1]
    · rw [if_neg h1] at he; simp at he

end Go.Proofs.YtignjhbajjephaaDoor

namespace Go.Proofs.YtignjhbajjephaaDoor
open Go.RowKit

/-- s lies in P from byte a on, and a line's end is behind it -/
structure Inner (s P : ByteArray) (a : Nat) : Prop where
  byte : ∀ k, k < s.size → P.get! (a + k) = s.get! k
  size : a + s.size < P.size
  next : P.get! (a + s.size) = 10
  cut : ∀ f t : Nat, t ≤ s.size → P.extract (f + a) (t + a) = s.extract f t

theorem decode_same {s P : ByteArray} {i j : Nat} (h0 : P.get! (j + 0) = s.get! (i + 0))
    (h1 : (decide (j + 1 < P.size) && (P.get! (j + 1)).toNat / 64 == 2) = (decide (i + 1 < s.size) && (s.get! (i + 1)).toNat / 64 == 2) ∧ ((decide (i + 1 < s.size) && (s.get! (i + 1)).toNat / 64 == 2) = true → P.get! (j + 1) = s.get! (i + 1)))
    (h2 : (decide (i + 1 < s.size) && (s.get! (i + 1)).toNat / 64 == 2) = true → (decide (j + 2 < P.size) && (P.get! (j + 2)).toNat / 64 == 2) = (decide (i + 2 < s.size) && (s.get! (i + 2)).toNat / 64 == 2) ∧ ((decide (i + 2 < s.size) && (s.get! (i + 2)).toNat / 64 == 2) = true → P.get! (j + 2) = s.get! (i + 2)))
    (h3 : (decide (i + 1 < s.size) && (s.get! (i + 1)).toNat / 64 == 2) = true → (decide (i + 2 < s.size) && (s.get! (i + 2)).toNat / 64 == 2) = true → (decide (j + 3 < P.size) && (P.get! (j + 3)).toNat / 64 == 2) = (decide (i + 3 < s.size) && (s.get! (i + 3)).toNat / 64 == 2) ∧ ((decide (i + 3 < s.size) && (s.get! (i + 3)).toNat / 64 == 2) = true → P.get! (j + 3) = s.get! (i + 3))) :
    Utf8.decode P j = Utf8.decode s i := by
  unfold Utf8.decode
  simp only [h0, h1.1]
  cases c1 : (decide (i + 1 < s.size) && (s.get! (i + 1)).toNat / 64 == 2) with
  | false => simp only [Bool.and_false, Bool.false_and, Bool.false_eq_true, if_false]
  | true =>
    have e1 := h1.2 c1
    obtain ⟨g2, k2⟩ := h2 c1
    simp only [e1, g2]
    cases c2 : (decide (i + 2 < s.size) && (s.get! (i + 2)).toNat / 64 == 2) with
    | false => simp only [Bool.and_false, Bool.false_and, Bool.false_eq_true, if_false]
    | true =>
      have e2 := k2 c2
      obtain ⟨g3, k3⟩ := h3 c1 c2
      simp only [e2, g3]
      cases c3 : (decide (i + 3 < s.size) && (s.get! (i + 3)).toNat / 64 == 2) with
      | false => simp only [Bool.and_false, Bool.false_eq_true, if_false]
      | true => simp only [k3 c3]

theorem Inner.dec {s P : ByteArray} {a : Nat} (h : Inner s P a) {p : Nat} (hp : p < s.size) : Utf8.decode P (a + p) = Utf8.decode s p := by
  have one : ∀ k, p + k ≤ s.size → (decide (a + p + k < P.size) && (P.get! (a + p + k)).toNat / 64 == 2) = (decide (p + k < s.size) && (s.get! (p + k)).toNat / 64 == 2) ∧ ((decide (p + k < s.size) && (s.get! (p + k)).toNat / 64 == 2) = true → P.get! (a + p + k) = s.get! (p + k)) := by
    intro k hk
    have hs := h.size
    by_cases hlt : p + k < s.size
    · have e : P.get! (a + p + k) = s.get! (p + k) := by rw [Nat.add_assoc]; exact h.byte _ hlt
      rw [e]
      refine ⟨?_, fun _ => rfl⟩
      rw [decide_eq_true (show a + p + k < P.size by omega), decide_eq_true hlt]
    · have e : p + k = s.size := by omega
      have e2 : P.get! (a + p + k) = 10 := by rw [Nat.add_assoc, e]; exact h.next
      rw [e2, decide_eq_false hlt]
      refine ⟨by simp, fun h => by simp at h⟩
  have lt : ∀ k, (decide (p + k < s.size) && (s.get! (p + k)).toNat / 64 == 2) = true → p + k < s.size := fun k hk => by
    simp only [Bool.and_eq_true, decide_eq_true_eq] at hk; exact hk.1
  refine decode_same (by rw [Nat.add_zero, Nat.add_zero]; exact h.byte p hp) (one 1 (by omega)) (fun c1 => one 2 ?_) (fun c1 c2 => one 3 ?_)
  · have := lt 1 c1; omega
  · have := lt 2 c2; omega
theorem Inner.decR {s P : ByteArray} {a : Nat} (h : Inner s P a) {p : Nat} (hp : p < s.size) : decR P (a + p) = decR s p ∧ decN P (a + p) = decN s p := by
  unfold Go.Proofs.YtignjhbajjephaaDoor.decR decN
  rw [h.dec hp]
  exact ⟨rfl, rfl⟩

/-- runes of s, as they lie in P -/
def ShL (a : Nat) (X Y : List Rn) : Prop := X.length = Y.length ∧ ∀ (j : Nat) (x : Rn), X[j]? = some x → ∃ y : Rn, Y[j]? = some y ∧ y.r = x.r ∧ y.fr = x.fr + a ∧ y.to = x.to + a
theorem Inner.runes {s P : ByteArray} {a : Nat} (h : Inner s P a) : ∀ (k p : Nat) (line col l1 c1 : Int), s.size ≤ p + k → p ≤ s.size →
    ∃ Y l2 c2, restG (Go.Proofs.YtignjhbajjephaaDoor.decR P) P (a + p) l1 c1 = Y ++ restG (Go.Proofs.YtignjhbajjephaaDoor.decR P) P (a + s.size) l2 c2 ∧ ShL a (runesAt (Go.Proofs.YtignjhbajjephaaDoor.decR s) s k p line col) Y
  | 0, p, line, col, l1, c1, hk, hp => by
    have e : p = s.size := by omega
    subst e
    exact ⟨[], l1, c1, rfl, rfl, fun j x hx => by simp [runesAt] at hx⟩
  | k + 1, p, line, col, l1, c1, hk, hp => by
    rw [runesAt]
    by_cases hlt : p < s.size
    · rw [if_pos hlt, restG_cons _ _ _ _ _ (show a + p < P.size by have := h.size; omega), (h.decR hlt).1, (h.decR hlt).2]
      have hpos := decN_pos s p
      have hle := decN_le s p hlt
      obtain ⟨Y, l2, c2, e, h1, h2⟩ := h.runes k (p + decN s p) (nextLine (Go.Proofs.YtignjhbajjephaaDoor.decR s p) line) (nextCol (Go.Proofs.YtignjhbajjephaaDoor.decR s p) col) (nextLine (Go.Proofs.YtignjhbajjephaaDoor.decR s p) l1) (nextCol (Go.Proofs.YtignjhbajjephaaDoor.decR s p) c1) (by omega) (by omega)
      refine ⟨⟨Go.Proofs.YtignjhbajjephaaDoor.decR s p, a + p, a + p + decN s p, l1, c1⟩ :: Y, l2, c2, ?_, ?_, ?_⟩
      · rw [Nat.add_assoc, e]; rfl
      · simp only [List.length_cons, h1]
      · intro j x hx
        cases j with
        | zero =>
          simp only [List.getElem?_cons_zero, Option.some.injEq] at hx
          subst hx
          exact ⟨_, rfl, rfl, Nat.add_comm _ _, by dsimp only; omega⟩
        | succ j => exact h2 j x (by simpa using hx)
    · rw [if_neg hlt]
      have e : p = s.size := by omega
      subst e
      exact ⟨[], l1, c1, rfl, rfl, fun j x hx => by simp at hx⟩

/-- all runes of s lie in L' from rune m on, and a line's end behind them -/
structure Shf (s P : ByteArray) (L L' : List Rn) (m a : Nat) : Prop where
  at_ : ∀ (j : Nat) (x : Rn), L[j]? = some x → ∃ y : Rn, L'[j + m]? = some y ∧ y.r = x.r ∧ y.fr = x.fr + a ∧ y.to = x.to + a
  nxt : rAt L' (L.length + m) = 10
  cut : ∀ f t : Nat, t ≤ s.size → P.extract (f + a) (t + a) = s.extract f t
  ok : ∀ (j : Nat) (x : Rn), L[j]? = some x → x.to ≤ s.size
  len : L.length + m < L'.length

theorem Shf.r {s P : ByteArray} {L L' : List Rn} {m a : Nat} (h : Shf s P L L' m a) {j : Nat} (hj : j < L.length) : rAt L' (j + m) = rAt L j := by
  obtain ⟨y, hy, e, _⟩ := h.at_ j _ (List.getElem?_eq_getElem hj)
  rw [rAt_some hy, rAt_some (List.getElem?_eq_getElem hj), e]
theorem Shf.row {s P : ByteArray} {L L' : List Rn} {m a : Nat} (h : Shf s P L L' m a) (q : Int → Bool) (q1 : q (-1) = false) (q2 : q 10 = false) : ∀ (d i : Nat), i + d = L.length → rowE q L' (i + m) = rowE q L i + m
  | 0, i, hd => by
    have e : i = L.length := by omega
    subst e
    rw [rowE_no q L _ (by rw [rAt_none (Nat.le_refl _)]; exact q1), rowE_no q L' _ (by rw [h.nxt]; exact q2)]
  | d + 1, i, hd => by
    cases hq : q (rAt L i) with
    | false => rw [rowE_no q L _ hq, rowE_no q L' _ (by rw [h.r (by omega)]; exact hq)]
    | true =>
      rw [rowE_yes q q1 L i hq, rowE_yes q q1 L' (i + m) (by rw [h.r (by omega)]; exact hq), show i + m + 1 = i + 1 + m by omega]
      exact h.row q q1 q2 d (i + 1) (by omega)
theorem Shf.text {s P : ByteArray} {L L' : List Rn} {m a : Nat} (h : Shf s P L L' m a) {i n : Nat} (hi : i < L.length) (hn : i + (n - 1) < L.length) : txt P L' (i + m) n = txt s L i n := by
  obtain ⟨y, hy, _, e1, _⟩ := h.at_ i _ (List.getElem?_eq_getElem hi)
  obtain ⟨z, hz, _, _, e2⟩ := h.at_ (i + (n - 1)) _ (List.getElem?_eq_getElem hn)
  unfold txt
  rw [(at_some hy).2.1, (at_some (List.getElem?_eq_getElem hi)).2.1, show i + m + (n - 1) = i + (n - 1) + m by omega, (at_some hz).2.2.1, (at_some (List.getElem?_eq_getElem hn)).2.2.1, e1, e2]
  exact h.cut _ _ (h.ok _ _ (List.getElem?_eq_getElem hn))

/-- tokens that differ in places alone -/
def Twin2 (x y : Tk) : Prop := y.kind = x.kind ∧ y.text = x.text ∧ y.num = x.num

theorem sign_ten (c : Int) : signN c (-1) = signN c 10 := by unfold signN; simp
theorem Shf.next {s P : ByteArray} {L L' : List Rn} {m a : Nat} (h : Shf s P L L' m a) {i : Nat} (hi : i < L.length) : signN (rAt L' (i + m)) (rAt L' (i + m + 1)) = signN (rAt L i) (rAt L (i + 1)) ∧ digitB (rAt L' (i + m + 1)) = digitB (rAt L (i + 1)) := by
  rw [h.r hi, show i + m + 1 = i + 1 + m by omega]
  by_cases h1 : i + 1 < L.length
  · rw [h.r h1]; exact ⟨rfl, rfl⟩
  · have e : i + 1 = L.length := by omega
    rw [e, h.nxt, rAt_none (Nat.le_refl _), sign_ten]
    exact ⟨rfl, rfl⟩

/-- a token is taken there as it is taken alone -/
theorem Shf.tok {s P : ByteArray} {L L' : List Rn} {m a : Nat} (h : Shf s P L L' m a) {i : Nat} (hi : i < L.length) (T T' : List Tk) (he : (tokT s L i T).er = 0) :
    ∃ x y, (tokT s L i T).T = T ++ [x] ∧ (tokT P L' (i + m) T').T = T' ++ [y] ∧ Twin2 x y ∧ (tokT P L' (i + m) T').er = 0 ∧ (tokT P L' (i + m) T').i = (tokT s L i T).i + m ∧ (tokT s L i T).i ≤ L.length ∧ i < (tokT s L i T).i := by
  unfold tokT at he ⊢
  rw [h.r hi]
  by_cases hl : letterB (rAt L i) = true
  · rw [if_pos hl] at he ⊢
    rw [if_pos hl]
    have hin : innerB (rAt L i) = true := by unfold innerB; rw [hl]; rfl
    have e1 := rowE_yes innerB (by decide) L i hin
    have g1 := rowE_ge innerB L (i + 1)
    have g2 := g1.2 (by omega)
    have hr := h.row innerB (by decide) (by decide) (L.length - i) i (by omega)
    have hw : wordN L' (i + m) = wordN L i := by unfold wordN; rw [hr]; omega
    have hN : 1 ≤ wordN L i ∧ i + wordN L i ≤ L.length := by unfold wordN; omega
    have ht : txt P L' (i + m) (wordN L i) = txt s L i (wordN L i) := h.text hi (by omega)
    unfold wordT at he ⊢
    rw [hw, ht]
    exact ⟨_, _, rfl, rfl, ⟨rfl, rfl, rfl⟩, he, by dsimp only; omega, by dsimp only; omega, by dsimp only; omega⟩
  · rw [if_neg hl] at he ⊢
    rw [if_neg hl]
    have hnum : isNum L' (i + m) = isNum L i := by unfold isNum; rw [h.r hi, (h.next hi).2]
    rw [hnum]
    by_cases hn : isNum L i = true
    · rw [if_pos hn] at he ⊢
      rw [if_pos hn]
      have g1 := rowE_ge digitB L (i + 1)
      have g2 := g1.2 (by omega)
      have hr := h.row digitB (by decide) (by decide) (L.length - (i + 1)) (i + 1) (by omega)
      have hw : numN L' (i + m) = numN L i := by unfold numN; rw [show i + m + 1 = i + 1 + m by omega, hr]; omega
      have hN : 1 ≤ numN L i ∧ i + numN L i ≤ L.length := by unfold numN; omega
      have ht : txt P L' (i + m) (numN L i) = txt s L i (numN L i) := h.text hi (by omega)
      have hv : numVal P L' (i + m) = numVal s L i := by unfold numVal; rw [hw, ht, h.r hi]
      unfold numbT at he ⊢
      rw [hw, ht, hv]
      exact ⟨_, _, rfl, rfl, ⟨rfl, rfl, rfl⟩, he, by dsimp only; omega, by dsimp only; omega, by dsimp only; omega⟩
    · rw [if_neg hn] at he ⊢
      rw [if_neg hn]
      have hsn := (h.next hi).1
      unfold signT at he ⊢
      rw [hsn]
      obtain ⟨n, hn'⟩ : ∃ n, signN (rAt L i) (rAt L (i + 1)) = n := ⟨_, rfl⟩
      have hn2 : n = 0 ∨ n = 1 ∨ (n = 2 ∧ i + 1 < L.length) := by
        rw [← hn']
        unfold signN
        split
        · rename_i q
          refine .inr (.inr ⟨rfl, ?_⟩)
          refine Classical.byContradiction fun hc => ?_
          have := rAt_none (L := L) (i := i + 1) (by omega)
          omega
        · split
          · exact .inr (.inl rfl)
          · exact .inl rfl
      rw [hn'] at he ⊢
      by_cases h0 : n = 0
      · rw [if_pos h0] at he; cases he
      · rw [if_neg h0] at he ⊢
        rw [if_neg h0]
        have ht : txt P L' (i + m) n = txt s L i n := h.text hi (by omega)
        rw [ht]
        exact ⟨_, _, rfl, rfl, ⟨rfl, rfl, rfl⟩, rfl, by dsimp only; omega, by dsimp only; omega, by dsimp only; omega⟩

/-- as many tokens, each the other's twin -/
def TwinL (T U : List Tk) : Prop := T.length = U.length ∧ ∀ (k : Nat) (x y : Tk), T[k]? = some x → U[k]? = some y → Twin2 x y
theorem TwinL.nil : TwinL [] [] := ⟨rfl, fun k x y h => by simp at h⟩
theorem TwinL.snoc {T U : List Tk} {x y : Tk} (h : TwinL T U) (hxy : Twin2 x y) : TwinL (T ++ [x]) (U ++ [y]) := by
  refine ⟨by simp [h.1], fun k a b ha hb => ?_⟩
  by_cases hk : k < T.length
  · rw [List.getElem?_append_left hk] at ha
    rw [List.getElem?_append_left (by rw [← h.1]; exact hk)] at hb
    exact h.2 k a b ha hb
  · rw [List.getElem?_append_right (by omega)] at ha
    rw [List.getElem?_append_right (by rw [← h.1]; omega)] at hb
    have h1 : k - T.length = 0 := by
      have := (List.getElem?_eq_some_iff.1 ha).1
      simp at this; omega
    rw [← h.1, h1] at hb
    rw [h1] at ha
    simp only [List.getElem?_cons_zero, Option.some.injEq] at ha hb
    subst ha; subst hb; exact hxy

/-- a step is there as it is alone -/
theorem Shf.one {s P : ByteArray} {L L' : List Rn} {m a : Nat} (h : Shf s P L L' m a) {i : Nat} (hi : i < L.length) {T T2 : List Tk} (pre : List Tk) (hT : TwinL T T2) (hc : pre.length + T.length < 4096) (he : (oneT s L i T).er = 0) :
    ∃ T3, TwinL (oneT s L i T).T T3 ∧ (oneT s L i T).T.length ≤ T.length + 1 ∧ i < (oneT s L i T).i ∧ (oneT s L i T).i ≤ L.length ∧ (oneT P L' (i + m) (pre ++ T2)).er = 0 ∧ (oneT P L' (i + m) (pre ++ T2)).T = pre ++ T3 ∧ (oneT P L' (i + m) (pre ++ T2)).i = (oneT s L i T).i + m := by
  unfold oneT at he ⊢
  rw [h.r hi]
  by_cases hb : blankB (rAt L i) = true
  · rw [if_pos hb]
    rw [if_pos hb]
    exact ⟨T2, hT, by dsimp only; omega, by dsimp only; omega, by dsimp only; omega, rfl, rfl, by dsimp only; omega⟩
  rw [if_neg hb] at he ⊢
  rw [if_neg hb]
  by_cases h35 : rAt L i = 35
  · rw [if_pos h35] at he ⊢
    rw [if_pos h35]
    have hq : restB (rAt L i) = true := by rw [h35]; decide
    have e1 := rowE_yes restB (by decide) L i hq
    have g1 := rowE_ge restB L (i + 1)
    have g2 := g1.2 (by omega)
    have hr := h.row restB (by decide) (by decide) (L.length - i) i (by omega)
    unfold restT at he ⊢
    rw [hr]
    by_cases hx : rowE restB L i < L.length ∧ rAt L (rowE restB L i) = -1
    · rw [if_pos hx] at he; cases he
    · rw [if_neg hx]
      have hx2 : ¬ (rowE restB L i + m < L'.length ∧ rAt L' (rowE restB L i + m) = -1) := by
        rintro ⟨_, e⟩
        by_cases hlt : rowE restB L i < L.length
        · rw [h.r hlt] at e; exact hx ⟨hlt, e⟩
        · rw [show rowE restB L i = L.length by omega, h.nxt] at e; omega
      rw [if_neg hx2]
      exact ⟨T2, hT, by dsimp only; omega, by dsimp only; omega, by dsimp only; omega, rfl, rfl, rfl⟩
  rw [if_neg h35] at he ⊢
  rw [if_neg h35]
  have he0 : (tokT s L i T).er = 0 := by
    unfold capT at he
    by_cases q : (tokT s L i T).er ≠ 0
    · rw [if_pos q] at he; exact absurd he q
    · omega
  obtain ⟨x, y, e1, e2, hxy, e3, e4, e5, e6⟩ := h.tok hi T (pre ++ T2) he0
  have hl2 := hT.1
  have c1 : capT L i (tokT s L i T) = tokT s L i T := by
    unfold capT
    rw [if_neg (by omega), if_neg (by rw [e1, List.length_append, List.length_singleton]; omega)]
  have c2 : capT L' (i + m) (tokT P L' (i + m) (pre ++ T2)) = tokT P L' (i + m) (pre ++ T2) := by
    unfold capT
    rw [if_neg (by omega), if_neg (by rw [e2, List.length_append, List.length_append, List.length_singleton]; omega)]
  rw [c1, c2]
  exact ⟨T2 ++ [y], by rw [e1]; exact hT.snoc hxy, by rw [e1]; simp, e6, e5, e3, by rw [e2, List.append_assoc], e4⟩

/-- all tokens are there as they are alone -/
theorem Shf.run {s P : ByteArray} {L L' : List Rn} {m a : Nat} (h : Shf s P L L' m a) (pre : List Tk) (hpre : pre.length + L.length < 4096) : ∀ (k i : Nat) (T T2 : List Tk), L.length - i ≤ k → i ≤ L.length → T.length ≤ i → TwinL T T2 → (runT s L k i T).er = 0 → ∀ k', L.length - i ≤ k' →
    ∃ k3 T3, k' ≤ k3 + (L.length - i) ∧ TwinL (runT s L k i T).T T3 ∧ (runT s L k i T).T.length ≤ L.length ∧ runT P L' k' (i + m) (pre ++ T2) = runT P L' k3 (L.length + m) (pre ++ T3)
  | 0, i, T, T2, hk, hi, hl, hT, he, k', hk' => by
    have e : i = L.length := by omega
    subst e
    exact ⟨k', T2, by omega, hT, hl, rfl⟩
  | k + 1, i, T, T2, hk, hi, hl, hT, he, k', hk' => by
    rw [runT] at he ⊢
    by_cases hlt : i < L.length
    · rw [if_pos hlt] at he ⊢
      by_cases q : (oneT s L i T).er ≠ 0
      · rw [if_pos q] at he; exact absurd he q
      rw [if_neg q] at he ⊢
      obtain ⟨T3, h1, h2, h3, h4, h5, h6, h7⟩ := h.one hlt pre hT (by omega) (by omega)
      obtain ⟨k1, rfl⟩ : ∃ q, k' = q + 1 := ⟨k' - 1, by omega⟩
      obtain ⟨k3, T4, g1, g2, g3, g4⟩ := h.run pre hpre k (oneT s L i T).i (oneT s L i T).T T3 (by omega) h4 (by omega) h1 he k1 (by omega)
      refine ⟨k3, T4, by omega, g2, g3, ?_⟩
      rw [runT, if_pos (by have := h.len; omega), if_neg (by omega), h6, h7]
      exact g4
    · rw [if_neg hlt] at he ⊢
      have e : i = L.length := by omega
      subst e
      exact ⟨k', T2, by omega, hT, hl, rfl⟩

end Go.Proofs.YtignjhbajjephaaDoor

namespace Go.Proofs.YtignjhbajjephaaDoor
open Go.RowKit

def Good2 (T : List Tk) (one : Int → PR) : Prop := ∀ i o a, one i = .ok o a → (tkAt T (a - 1)).kind ≠ 5
theorem last_of {T : List Tk} {i a : Int} (h : (tkAt T i).kind ≠ 5) (e : a - 1 = i) : (tkAt T (a - 1)).kind ≠ 5 := by rw [e]; exact h
theorem isTk_not {T : List Tk} {i kind : Int} {s : ByteArray} (h : isTk T i kind s = true) (hk : kind ≠ 5) : (tkAt T i).kind ≠ 5 := by rw [isTk_kind h]; exact hk
theorem rowP_good2 {T : List Tk} {one : Int → PR} (h : Good2 T one) (wd : ByteArray) (op : Int) : ∀ (k : Nat) (i : Int) (out : List It) (o : List It) (a : Int), (tkAt T (i - 1)).kind ≠ 5 → rowP T one wd op k i out = .ok o a → (tkAt T (a - 1)).kind ≠ 5
  | 0, i, out, o, a, h0, he => by
    simp only [rowP, PR.ok.injEq] at he
    obtain ⟨rfl, rfl⟩ := he
    exact h0
  | k + 1, i, out, o, a, h0, he => by
    rw [rowP] at he
    split at he
    · obtain ⟨o1, a1, he1, he2⟩ := also_ok he
      exact rowP_good2 h wd op k _ _ _ _ (h _ _ _ he1) he2
    · simp only [PR.ok.injEq] at he
      obtain ⟨rfl, rfl⟩ := he
      exact h0
theorem rowsP_good2 {T : List Tk} {one : Int → PR} (h : Good2 T one) (wd : ByteArray) (op : Int) : Good2 T (rowsP T one wd op) := by
  intro i o a he
  obtain ⟨o1, a1, he1, he2⟩ := also_ok he
  exact rowP_good2 h wd op _ _ _ _ _ (h _ _ _ he1) he2
theorem compP_good2 (T : List Tk) : Good2 T (compP T) := by
  intro i o a he
  unfold compP at he
  split at he
  · split at he
    · cases he
    · split at he
      · rename_i h2 h3
        simp only [PR.ok.injEq] at he
        obtain ⟨rfl, rfl⟩ := he
        exact last_of (isWord_kind h3) (by omega)
      · cases he
  · cases he
theorem namedP_good2 (T : List Tk) (i : Int) (op : Int) (o : List It) (a : Int) (he : namedP T i op = .ok o a) : (tkAt T (a - 1)).kind ≠ 5 := by
  unfold namedP at he
  split at he
  · rename_i h1
    simp only [PR.ok.injEq] at he
    obtain ⟨rfl, rfl⟩ := he
    exact last_of (i := i + 1) (by omega) (by omega)
  · cases he
theorem didP_good2 (T : List Tk) (i : Int) (o : List It) (a : Int) (he : didP T i = .ok o a) : (tkAt T (a - 1)).kind ≠ 5 := by
  unfold didP at he
  split at he
  · split at he
    · rename_i h1 h2
      simp only [PR.ok.injEq] at he
      obtain ⟨rfl, rfl⟩ := he
      exact last_of (i := i + 2) (by omega) (by omega)
    · cases he
  · cases he
theorem item_good2 {T : List Tk} {i : Int} {x : It} {o : List It} {a : Int} (hi : (tkAt T i).kind ≠ 5) (he : PR.ok [x] (i + 1) = .ok o a) : (tkAt T (a - 1)).kind ≠ 5 := by
  simp only [PR.ok.injEq] at he
  obtain ⟨rfl, rfl⟩ := he
  exact last_of hi (by omega)
theorem atomP_good2 (T : List Tk) (prop : Bool) (i : Int) (o : List It) (a : Int) (hi : (tkAt T i).kind ≠ 5) (he : atomP T prop i = .ok o a) : (tkAt T (a - 1)).kind ≠ 5 := by
  unfold atomP at he
  split at he
  · exact namedP_good2 _ _ _ _ _ he
  split at he
  · exact namedP_good2 _ _ _ _ _ he
  split at he
  · exact item_good2 hi he
  split at he
  · exact item_good2 hi he
  split at he
  · cases he
  split at he
  · exact namedP_good2 _ _ _ _ _ he
  split at he
  · exact didP_good2 _ _ _ _ he
  split at he
  · exact item_good2 hi he
  split at he
  · exact item_good2 hi he
  · cases he
theorem untilP_good2 {T : List Tk} {form : Int → PR} (op i : Int) (o : List It) (a : Int) (he : untilP T form op i = .ok o a) : (tkAt T (a - 1)).kind ≠ 5 := by
  unfold untilP at he
  obtain ⟨h1, he⟩ := need_ok he
  obtain ⟨o1, b, hf, he⟩ := also_ok he
  obtain ⟨h2, he⟩ := need_ok he
  obtain ⟨o2, d, hf2, he⟩ := also_ok he
  obtain ⟨h3, he⟩ := need_ok he
  simp only [PR.ok.injEq] at he
  obtain ⟨rfl, rfl⟩ := he
  exact last_of (isTk_not h3 (by decide)) (by omega)
theorem signP_good2 {T : List Tk} {prop : Bool} {sg form : Int → PR} (hs : Good2 T sg) : Good2 T (signP T prop sg form) := by
  intro i o a he
  unfold signP at he
  split at he
  · obtain ⟨o1, b, h2, he⟩ := also_ok he
    obtain ⟨h3, he⟩ := need_ok he
    simp only [PR.ok.injEq] at he
    obtain ⟨rfl, rfl⟩ := he
    exact last_of (isTk_not h3 (by decide)) (by omega)
  split at he
  · exact compP_good2 T i o a he
  rename_i hk
  have g0 : (tkAt T i).kind ≠ 5 := by omega
  split at he
  · obtain ⟨o1, b, h2, he⟩ := also_ok he
    simp only [PR.ok.injEq] at he
    obtain ⟨rfl, rfl⟩ := he
    exact hs _ _ _ h2
  split at he
  · cases he
  split at he
  · exact untilP_good2 _ _ _ _ he
  split at he
  · exact untilP_good2 _ _ _ _ he
  split at he
  · exact atomP_good2 T prop i o a g0 he
  · obtain ⟨o1, b, h2, he⟩ := also_ok he
    simp only [PR.ok.injEq] at he
    obtain ⟨rfl, rfl⟩ := he
    exact hs _ _ _ h2
theorem formP_good2 {T : List Tk} {sg form : Int → PR} (hs : Good2 T sg) (hf : Good2 T form) : Good2 T (formP T sg form) := by
  intro i o a he
  unfold formP at he
  obtain ⟨o1, b, h1, he⟩ := also_ok he
  have g1 := rowsP_good2 (rowsP_good2 hs wAnd 16) wOr 17 _ _ _ h1
  split at he
  · obtain ⟨o2, c, h2, he⟩ := also_ok he
    simp only [PR.ok.injEq] at he
    obtain ⟨rfl, rfl⟩ := he
    exact hf _ _ _ h2
  · simp only [PR.ok.injEq] at he
    obtain ⟨rfl, rfl⟩ := he
    exact g1
theorem both_good2 (T : List Tk) (prop : Bool) : ∀ n, Good2 T (bothP T prop n).1 ∧ Good2 T (bothP T prop n).2
  | 0 => ⟨fun i o a h => (by have h : badP T i 5 = .ok o a := h; cases h), fun i o a h => (by have h : badP T i 5 = .ok o a := h; cases h)⟩
  | n + 1 => by
    have ih := both_good2 T prop n
    have hs := signP_good2 (prop := prop) (form := (bothP T prop n).2) ih.1
    exact ⟨hs, formP_good2 hs ih.2⟩

/-- what is wrong has a number -/
def Good3 (one : Int → PR) : Prop := ∀ i e l c, one i = .bad e l c → e ≠ 0
theorem also_no {p : PR} {f : List It → Int → PR} {e l c : Int} (h : p.also f = .bad e l c) : p = .bad e l c ∨ ∃ o1 a1, p = .ok o1 a1 ∧ f o1 a1 = .bad e l c := by
  cases p with
  | ok o1 a1 => exact .inr ⟨o1, a1, rfl, h⟩
  | bad er l' c' => exact .inl h
theorem badP_no {T : List Tk} {i er e l c : Int} (h : badP T i er = .bad e l c) (h0 : er ≠ 0) : e ≠ 0 := by
  unfold badP at h
  simp only [PR.bad.injEq] at h
  omega
theorem need_no {T : List Tk} {i kind : Int} {s : ByteArray} {f : Int → PR} {e l c : Int} (h : needP T i kind s f = .bad e l c) : e ≠ 0 ∨ f (i + 1) = .bad e l c := by
  unfold needP at h
  split at h
  · exact .inr h
  · exact .inl (badP_no h (by decide))
theorem rowP_no {T : List Tk} {one : Int → PR} (h : Good3 one) (wd : ByteArray) (op : Int) : ∀ (k : Nat) (i : Int) (out : List It) (e l c : Int), rowP T one wd op k i out = .bad e l c → e ≠ 0
  | 0, i, out, e, l, c, he => by cases he
  | k + 1, i, out, e, l, c, he => by
    rw [rowP] at he
    split at he
    · rcases also_no he with he | ⟨o1, a1, _, he⟩
      · exact h _ _ _ _ he
      · exact rowP_no h wd op k _ _ _ _ _ he
    · cases he
theorem rowsP_no {T : List Tk} {one : Int → PR} (h : Good3 one) (wd : ByteArray) (op : Int) : Good3 (rowsP T one wd op) := by
  intro i e l c he
  rcases also_no he with he | ⟨o1, a1, _, he⟩
  · exact h _ _ _ _ he
  · exact rowP_no h wd op _ _ _ _ _ _ he
theorem compP_no (T : List Tk) : Good3 (compP T) := by
  intro i e l c he
  unfold compP at he
  repeat' split at he
  all_goals first | exact badP_no he (by decide) | cases he
theorem namedP_no (T : List Tk) (i op e l c : Int) (he : namedP T i op = .bad e l c) : e ≠ 0 := by
  unfold namedP at he
  split at he
  · cases he
  · exact badP_no he (by decide)
theorem didP_no (T : List Tk) (i e l c : Int) (he : didP T i = .bad e l c) : e ≠ 0 := by
  unfold didP at he
  repeat' split at he
  all_goals first | exact badP_no he (by decide) | cases he
theorem atomP_no (T : List Tk) (prop : Bool) (i e l c : Int) (he : atomP T prop i = .bad e l c) : e ≠ 0 := by
  unfold atomP at he
  repeat' split at he
  all_goals first | exact badP_no he (by decide) | exact namedP_no _ _ _ _ _ _ he | exact didP_no _ _ _ _ _ he | cases he
theorem untilP_no {T : List Tk} {form : Int → PR} (h : Good3 form) (op i e l c : Int) (he : untilP T form op i = .bad e l c) : e ≠ 0 := by
  unfold untilP at he
  rcases need_no he with he | he
  · exact he
  rcases also_no he with he | ⟨o1, a1, _, he⟩
  · exact h _ _ _ _ he
  rcases need_no he with he | he
  · exact he
  rcases also_no he with he | ⟨o2, a2, _, he⟩
  · exact h _ _ _ _ he
  rcases need_no he with he | he
  · exact he
  cases he
theorem signP_no {T : List Tk} {prop : Bool} {sg form : Int → PR} (hs : Good3 sg) (hf : Good3 form) : Good3 (signP T prop sg form) := by
  intro i e l c he
  unfold signP at he
  split at he
  · rcases also_no he with he | ⟨o1, a1, _, he⟩
    · exact hf _ _ _ _ he
    rcases need_no he with he | he
    · exact he
    cases he
  split at he
  · exact compP_no T i e l c he
  split at he
  · rcases also_no he with he | ⟨o1, a1, _, he⟩
    · exact hs _ _ _ _ he
    cases he
  split at he
  · exact badP_no he (by decide)
  split at he
  · exact untilP_no hf _ _ _ _ _ he
  split at he
  · exact untilP_no hf _ _ _ _ _ he
  split at he
  · exact atomP_no T prop i e l c he
  · rcases also_no he with he | ⟨o1, a1, _, he⟩
    · exact hs _ _ _ _ he
    cases he
theorem formP_no {T : List Tk} {sg form : Int → PR} (hs : Good3 sg) (hf : Good3 form) : Good3 (formP T sg form) := by
  intro i e l c he
  unfold formP at he
  rcases also_no he with he | ⟨o1, a1, _, he⟩
  · exact rowsP_no (rowsP_no hs wAnd 16) wOr 17 _ _ _ _ he
  split at he
  · rcases also_no he with he | ⟨o2, a2, _, he⟩
    · exact hf _ _ _ _ he
    cases he
  · cases he
theorem both_no (T : List Tk) (prop : Bool) : ∀ n, Good3 (bothP T prop n).1 ∧ Good3 (bothP T prop n).2
  | 0 => ⟨fun i e l c h => badP_no (show badP T i 5 = .bad e l c from h) (by decide), fun i e l c h => badP_no (show badP T i 5 = .bad e l c from h) (by decide)⟩
  | n + 1 => by
    have ih := both_no T prop n
    have hs := signP_no (T := T) (prop := prop) ih.1 ih.2
    exact ⟨hs, formP_no hs ih.2⟩

end Go.Proofs.YtignjhbajjephaaDoor
