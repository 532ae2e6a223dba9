/- Contracts of warderref01: All, Runes, End. -/
import Derived.Test.YtgmijfmbbaipfaaDoorRef01
import Derived.Test.YtgmijfmbbaipfaaDoorText2
namespace Go.Proofs.YtgmijfmbbaipfaaDoor
open Go.RowKit

theorem end_list (s : ByteArray) (l : List Rn) (x : Rn) (h : allR s = l ++ [x]) : endL s = nextLine x.r x.line ∧ endC s = nextCol x.r x.col := by
  have key : ∀ k p line col l x, runesAt (decR s) s k p line col = l ++ [x] → s.size ≤ p + k → endAt s k p line col = (nextLine x.r x.line, nextCol x.r x.col) := by
    intro k
    induction k with
    | zero => intro p line col l x h _; simp [runesAt] at h
    | succ k ih =>
      intro p line col l x h hk
      simp only [runesAt] at h
      rw [endAt]
      by_cases hp : p < s.size
      · have hd := decN_pos s p
        rw [if_pos hp] at h ⊢
        cases l with
        | nil =>
          simp only [List.nil_append, List.cons.injEq] at h
          obtain ⟨rfl, h2⟩ := h
          by_cases hq : p + decN s p < s.size
          · obtain ⟨j, hj⟩ : ∃ j, k = j + 1 := ⟨k - 1, by omega⟩
            subst hj
            simp only [runesAt] at h2
            rw [if_pos hq] at h2; cases h2
          · cases k with
            | zero => rfl
            | succ j => rw [endAt, if_neg hq]
        | cons y l =>
          simp only [List.cons_append, List.cons.injEq] at h
          exact ih _ _ _ l x h.2 (by omega)
      · rw [if_neg hp] at h; simp at h
  have := key (s.size - 0) 0 1 1 l x h (by omega)
  unfold endL endC endP
  rw [this]; exact ⟨rfl, rfl⟩

theorem end_nil (s : ByteArray) (h : allR s = []) : endL s = 1 ∧ endC s = 1 := by
  have hz : ¬ 0 < s.size := by
    intro hp
    unfold allR at h
    rw [restG_cons _ _ _ _ _ hp] at h; cases h
  unfold endL endC
  rw [endP_end s 0 1 1 hz]; exact ⟨rfl, rfl⟩

theorem PosAt.storedCol {w : World} {b : Nat} {t : TypeId} {line col : Int} (h : PosAt w b t line col) (c' : Int) : PosAt (w.setCell ⟨b, 1, none⟩ (.int .i64 c')) b t line c' := heap_setCell_same w b 1 _ t (.int .i64 c') h
theorem PosAt.past {w : World} {b : Nat} {t : TypeId} {line col : Int} (h : PosAt w b t line col) {p : Addr} (hne : b ≠ p.block) (u : Value) : PosAt (w.setCell p u) b t line col := (Below.heap_setCell w p u b hne).trans h
theorem cell_past {w : World} {p : Addr} {u v : Value} {g j : Nat} (h : w.cell? ⟨g, j, none⟩ = some v) (hne : g ≠ p.block) : (w.setCell p u).cell? ⟨g, j, none⟩ = some v :=
  (World.cell?_of_block (a := ⟨g, j, none⟩) (Below.heap_setCell w p u g hne)).trans h

theorem runesAt_bd (g : Nat → Int) (s : ByteArray) (k p : Nat) (line col : Int) (a : 0 ≤ line ∧ line ≤ p + 1 ∧ 0 ≤ col ∧ col ≤ p + 1) (y : Rn) (h : y ∈ runesAt g s k p line col) : 0 ≤ y.line ∧ y.line ≤ s.size + 1 ∧ 0 ≤ y.col ∧ y.col ≤ s.size + 1 := by
  induction k generalizing p line col with
  | zero => simp [runesAt] at h
  | succ k ih =>
    simp only [runesAt] at h
    split at h
    · rename_i hp
      rcases List.mem_cons.1 h with rfl | h
      · obtain ⟨a1, a2, a3, a4⟩ := a
        exact ⟨a1, by show line ≤ _; omega, a3, by show col ≤ _; omega⟩
      · exact ih _ _ _ (next_bd _ _ _ _ _ (decN_pos s p) a) h
    · simp at h
theorem allR_bd (s : ByteArray) (y : Rn) (h : y ∈ allR s) : 0 ≤ y.line ∧ y.line ≤ s.size + 1 ∧ 0 ≤ y.col ∧ y.col ≤ s.size + 1 := runesAt_bd _ _ _ _ _ _ (by omega) _ h

end Go.Proofs.YtgmijfmbbaipfaaDoor
