/- Plain: places of tokens rise, only the last one is the end, and it alone has no text. -/
import Derived.Test.YthlofmnmacpogaaGreatDoorDf09

namespace Go.Proofs.YthlofmnmacpogaaGreatDoor
open Go.RowKit

/-- a place ahead of another -/
def PLt (l c l' c' : Int) : Prop := l < l' ∨ (l = l' ∧ c < c')
theorem PLt.trans {a b c d e f : Int} (h : PLt a b c d) (h' : PLt c d e f) : PLt a b e f := by unfold PLt at *; omega

theorem next_lt (r line col : Int) : PLt line col (nextLine r line) (nextCol r col) := by
  unfold PLt nextLine nextCol; split <;> omega

theorem runesAt_low (g : Nat → Int) (s : ByteArray) (k p : Nat) (line col : Int) (x : Rn) (h : x ∈ runesAt g s k p line col) : (line = x.line ∧ col = x.col) ∨ PLt line col x.line x.col := by
  induction k generalizing p line col with
  | zero => simp [runesAt] at h
  | succ k ih =>
    simp only [runesAt] at h
    split at h
    · rcases List.mem_cons.1 h with rfl | h
      · exact .inl ⟨rfl, rfl⟩
      · refine .inr ?_
        rcases ih _ _ _ h with ⟨a, b⟩ | a
        · rw [← a, ← b]; exact next_lt _ _ _
        · exact (next_lt _ _ _).trans a
    · simp at h

theorem runesAt_rise (g : Nat → Int) (s : ByteArray) (k p : Nat) (line col : Int) : (runesAt g s k p line col).Pairwise (fun x y => PLt x.line x.col y.line y.col) := by
  induction k generalizing p line col with
  | zero => simp [runesAt]
  | succ k ih =>
    simp only [runesAt]
    split
    · refine List.pairwise_cons.2 ⟨fun y hy => ?_, ih _ _ _⟩
      rcases runesAt_low _ _ _ _ _ _ y hy with ⟨a, b⟩ | a
      · rw [← a, ← b]; exact next_lt _ _ _
      · exact (next_lt _ _ _).trans a
    · simp

theorem endAt_low (s : ByteArray) (k p : Nat) (line col : Int) : (line = (endAt s k p line col).1 ∧ col = (endAt s k p line col).2) ∨ PLt line col (endAt s k p line col).1 (endAt s k p line col).2 := by
  induction k generalizing p line col with
  | zero => exact .inl ⟨rfl, rfl⟩
  | succ k ih =>
    simp only [endAt]
    split
    · refine .inr ?_
      rcases ih (p + decN s p) (nextLine (decR s p) line) (nextCol (decR s p) col) with ⟨a, b⟩ | a
      · rw [← a, ← b]; exact next_lt _ _ _
      · exact (next_lt _ _ _).trans a
    · exact .inl ⟨rfl, rfl⟩

theorem runesAt_end (s : ByteArray) (k p : Nat) (line col : Int) (x : Rn) (h : x ∈ runesAt (decR s) s k p line col) : PLt x.line x.col (endAt s k p line col).1 (endAt s k p line col).2 := by
  induction k generalizing p line col with
  | zero => simp [runesAt] at h
  | succ k ih =>
    simp only [runesAt] at h
    simp only [endAt]
    split at h
    · rename_i hp
      rw [if_pos hp]
      rcases List.mem_cons.1 h with rfl | h
      · rcases endAt_low s k (p + decN s p) (nextLine (decR s p) line) (nextCol (decR s p) col) with ⟨a, b⟩ | a
        · show PLt line col _ _
          rw [← a, ← b]; exact next_lt _ _ _
        · exact (next_lt _ _ _).trans a
      · exact ih _ _ _ h
    · simp at h

theorem rune_lt {s : ByteArray} {i j : Nat} (hij : i < j) (hj : j < (allR s).length) : PLt (lineAt (allR s) i) (colAt (allR s) i) (lineAt (allR s) j) (colAt (allR s) j) := by
  have hi : i < (allR s).length := by omega
  have h := List.pairwise_iff_getElem.1 (runesAt_rise (decR s) s (s.size - 0) 0 1 1) i j hi hj hij
  have e1 := at_some (List.getElem?_eq_getElem hi)
  have e2 := at_some (List.getElem?_eq_getElem hj)
  rw [e1.2.2.2.1, e1.2.2.2.2, e2.2.2.2.1, e2.2.2.2.2]
  exact h
theorem rune_end {s : ByteArray} {i : Nat} (hi : i < (allR s).length) : PLt (lineAt (allR s) i) (colAt (allR s) i) (endL s) (endC s) := by
  have e1 := at_some (List.getElem?_eq_getElem hi)
  rw [e1.2.2.2.1, e1.2.2.2.2]
  exact runesAt_end s _ 0 1 1 _ (List.getElem_mem hi)

/-- what holds of the tokens that were taken up to a rune -/
structure Risen (s : ByteArray) (i : Nat) (T : List Tk) : Prop where
  rise : T.Pairwise (fun x y => PLt x.line x.col y.line y.col)
  low : ∀ x ∈ T, ∃ k, k < i ∧ k < (allR s).length ∧ x.line = lineAt (allR s) k ∧ x.col = colAt (allR s) k
  kind : ∀ x ∈ T, 1 ≤ x.kind ∧ x.kind ≤ 4
  text : ∀ x ∈ T, 0 < x.text.size

theorem Risen.snoc {s : ByteArray} {i j : Nat} {T : List Tk} (h : Risen s i T) (x : Tk) (hi : i < (allR s).length) (hij : i < j) (hl : x.line = lineAt (allR s) i) (hc : x.col = colAt (allR s) i) (hk : 1 ≤ x.kind ∧ x.kind ≤ 4) (ht : 0 < x.text.size) : Risen s j (T ++ [x]) := by
  refine ⟨List.pairwise_append.2 ⟨h.rise, List.pairwise_singleton _ _, ?_⟩, ?_, ?_, ?_⟩
  · intro y hy z hz
    rw [List.mem_singleton.1 hz, hl, hc]
    obtain ⟨k, hk1, hk2, e1, e2⟩ := h.low y hy
    rw [e1, e2]
    exact rune_lt hk1 hi
  · intro y hy
    rcases List.mem_append.1 hy with hy | hy
    · obtain ⟨k, a, b, c⟩ := h.low y hy; exact ⟨k, by omega, b, c⟩
    · rw [List.mem_singleton.1 hy]; exact ⟨i, hij, hi, hl, hc⟩
  · intro y hy
    rcases List.mem_append.1 hy with hy | hy
    · exact h.kind y hy
    · rw [List.mem_singleton.1 hy]; exact hk
  · intro y hy
    rcases List.mem_append.1 hy with hy | hy
    · exact h.text y hy
    · rw [List.mem_singleton.1 hy]; exact ht
theorem Risen.mono {s : ByteArray} {i j : Nat} {T : List Tk} (h : Risen s i T) (hij : i ≤ j) : Risen s j T :=
  ⟨h.rise, fun x hx => by obtain ⟨k, a, b⟩ := h.low x hx; exact ⟨k, by omega, b⟩, h.kind, h.text⟩

theorem sign_ascii {L : List Rn} {i : Nat} (hi : i < L.length) (hz : signN (rAt L i) (rAt L (i + 1)) ≠ 0) :
    (∀ k, k < signN (rAt L i) (rAt L (i + 1)) → 33 ≤ rAt L (i + k) ∧ rAt L (i + k) < 128) ∧ ∀ k, k < signN (rAt L i) (rAt L (i + 1)) → i + k < L.length := by
  unfold signN at hz ⊢
  by_cases hq : (rAt L i = 60 ∨ rAt L i = 62 ∨ rAt L i = 33) ∧ rAt L (i + 1) = 61
  · rw [if_pos hq]
    have hl : i + 1 < L.length := by
      by_cases hl : i + 1 < L.length
      · exact hl
      · rw [rAt_none (L := L) (i := i + 1) (by omega)] at hq; omega
    refine ⟨fun k hk => ?_, fun k hk => by omega⟩
    match k, hk with
    | 0, _ => rw [Nat.add_zero]; omega
    | 1, _ => omega
  · rw [if_neg hq] at hz ⊢
    split
    · rename_i h
      refine ⟨fun k hk => ?_, fun k hk => by omega⟩
      obtain rfl : k = 0 := by omega
      rw [Nat.add_zero]; omega
    · rename_i h; rw [if_neg h] at hz; exact absurd rfl hz

theorem word_text {s : ByteArray} {L : List Rn} {i : Nat} (hO : RnOk s L) (hi : i < L.length) (hl : letterB (rAt L i) = true) : (txt s L i (wordN L i)).size = wordN L i ∧ 1 ≤ wordN L i := by
  have hin : innerB (rAt L i) = true := by unfold innerB; rw [hl]; rfl
  obtain ⟨h1, h2, h3⟩ := row_facts (q := innerB) (by decide) hi hin
  exact ⟨hO.txtSize i (wordN L i) (fun k hk => inner_ascii (h3 k hk)) h2 h1, h1⟩

theorem tokT_risen {s : ByteArray} {i : Nat} {T : List Tk} (hO : RnOk s (allR s)) (h : Risen s i T) (hi : i < (allR s).length) (he : (tokT s (allR s) i T).er = 0) : Risen s (tokT s (allR s) i T).i (tokT s (allR s) i T).T := by
  have hon := tokT_on s (allR s) i T hi he
  unfold tokT at he hon ⊢
  by_cases hl : letterB (rAt (allR s) i) = true
  · rw [if_pos hl] at he hon ⊢
    have ht := word_text hO hi hl
    exact h.snoc _ hi hon.1 rfl rfl (by show 1 ≤ wordKind _ ∧ wordKind _ ≤ 4; unfold wordKind; split <;> omega) (by show 0 < (txt s (allR s) i (wordN (allR s) i)).size; omega)
  · rw [if_neg hl] at he hon ⊢
    by_cases hn : isNum (allR s) i = true
    · rw [if_pos hn] at he hon ⊢
      obtain ⟨_, _, h0, _⟩ := num_pre hO hi hn
      exact h.snoc _ hi hon.1 rfl rfl (by show (1 : Int) ≤ 3 ∧ (3 : Int) ≤ 4; omega) h0
    · rw [if_neg hn] at he hon ⊢
      unfold signT at he hon ⊢
      by_cases hs : signN (rAt (allR s) i) (rAt (allR s) (i + 1)) = 0
      · rw [if_pos hs] at he; simp at he
      · rw [if_neg hs] at hon ⊢
        obtain ⟨a, b⟩ := sign_ascii hi hs
        have := hO.txtSize i _ (fun k hk => by have := a k hk; omega) b (by omega)
        exact h.snoc _ hi hon.1 rfl rfl (by show (1 : Int) ≤ 4 ∧ (4 : Int) ≤ 4; omega) (by show 0 < (txt s (allR s) i (signN (rAt (allR s) i) (rAt (allR s) (i + 1)))).size; omega)

theorem oneT_risen {s : ByteArray} {i : Nat} {T : List Tk} (hO : RnOk s (allR s)) (h : Risen s i T) (hT : T.length ≤ 4096) (hi : i < (allR s).length) (he : (oneT s (allR s) i T).er = 0) : Risen s (oneT s (allR s) i T).i (oneT s (allR s) i T).T := by
  have hon := oneT_on s (allR s) i T hi hT he
  unfold oneT at he hon ⊢
  by_cases hb : blankB (rAt (allR s) i) = true
  · rw [if_pos hb]; exact h.mono (by show i ≤ i + 1; omega)
  · rw [if_neg hb] at he hon ⊢
    by_cases h35 : rAt (allR s) i = 35
    · rw [if_pos h35] at he hon ⊢
      unfold restT at he hon ⊢
      split
      · rename_i hq; rw [if_pos hq] at he; simp at he
      · rename_i hq; rw [if_neg hq] at hon; exact h.mono (by show i ≤ rowE restB (allR s) i; have := hon.1; simp only at this; omega)
    · rw [if_neg h35] at he hon ⊢
      unfold capT at he hon ⊢
      by_cases hr : (tokT s (allR s) i T).er ≠ 0
      · rw [if_pos hr] at he; exact absurd he hr
      · rw [if_neg hr] at he hon ⊢
        by_cases hc : 4096 < (tokT s (allR s) i T).T.length
        · rw [if_pos hc] at he; simp at he
        · rw [if_neg hc]
          exact tokT_risen hO h hi (by omega)

theorem runT_risen {s : ByteArray} (hO : RnOk s (allR s)) (k i : Nat) (T : List Tk) (h : Risen s i T) (hT : T.length ≤ 4096) (he : (runT s (allR s) k i T).er = 0) : ∃ j, Risen s j (runT s (allR s) k i T).T ∧ (runT s (allR s) k i T).T.length ≤ 4096 := by
  induction k generalizing i T with
  | zero => exact ⟨i, h, hT⟩
  | succ k ih =>
    rw [runT] at he ⊢
    by_cases hi : i < (allR s).length
    · rw [if_pos hi] at he ⊢
      by_cases h1 : (oneT s (allR s) i T).er ≠ 0
      · rw [if_pos h1] at he; exact absurd he h1
      · rw [if_neg h1] at he ⊢
        exact ih _ _ (oneT_risen hO h hT hi (by omega)) (oneT_on s (allR s) i T hi hT (by omega)).2 he
    · rw [if_neg hi]; exact ⟨i, h, hT⟩

/-- what a text's tokens are like -/
theorem tokRes_rises (s : ByteArray) (he : (tokRes s).er = 0) : ∃ R, (tokRes s).T = R ++ [endTk s] ∧ R.length ≤ 4096 ∧ (R ++ [endTk s]).Pairwise (fun x y => PLt x.line x.col y.line y.col) ∧ (∀ x ∈ R, 1 ≤ x.kind ∧ x.kind ≤ 4) ∧ ∀ x ∈ R, 0 < x.text.size := by
  unfold tokRes at he ⊢
  by_cases hl : 16384 < (allR s).length
  · rw [if_pos hl] at he; simp at he
  · rw [if_neg hl] at he ⊢
    by_cases h1 : (runT s (allR s) (allR s).length 0 []).er ≠ 0
    · rw [if_pos h1] at he; exact absurd he h1
    · rw [if_neg h1]
      obtain ⟨j, h, hlen⟩ := runT_risen (rnOk s (by omega)) (allR s).length 0 [] ⟨List.Pairwise.nil, by simp, by simp, by simp⟩ (by simp) (by omega)
      refine ⟨_, rfl, hlen, List.pairwise_append.2 ⟨h.rise, List.pairwise_singleton _ _, ?_⟩, h.kind, h.text⟩
      intro x hx y hy
      rw [List.mem_singleton.1 hy]
      obtain ⟨k, _, hk, e1, e2⟩ := h.low x hx
      rw [e1, e2]
      exact rune_end hk

theorem tokRes_bad (s : ByteArray) (he : (tokRes s).er ≠ 0) : (tokRes s).T = [] := by
  unfold tokRes at he ⊢
  by_cases hl : 16384 < (allR s).length
  · rw [if_pos hl]
  · rw [if_neg hl] at he ⊢
    by_cases h1 : (runT s (allR s) (allR s).length 0 []).er ≠ 0
    · rw [if_pos h1]
    · rw [if_neg h1] at he; simp at he

end Go.Proofs.YthlofmnmacpogaaGreatDoor
