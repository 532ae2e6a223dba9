/- Plain: a text between spaces in a row of words. -/
import Derived.Test.YtgmijfmbbaipfaaDoorTokVal2
import Derived.Lib.IndexMore
namespace Go.Proofs.YtgmijfmbbaipfaaDoor
open Go.RowKit

theorem index_cons (b : UInt8) (l sub : List UInt8) : (0 ≤ Lib.index (b :: l) sub) ↔ (sub.isPrefixOf (b :: l) = true ∨ 0 ≤ Lib.index l sub) := by
  have := Lib.index_ge l sub
  obtain ⟨q, hq⟩ : ∃ q, Lib.index l sub = q := ⟨_, rfl⟩
  rw [show Lib.index (b :: l) sub = if sub.isPrefixOf (b :: l) then 0 else if Lib.index l sub == -1 then -1 else Lib.index l sub + 1 by rw [Lib.index]]
  rw [hq] at this ⊢
  cases sub.isPrefixOf (b :: l)
  · by_cases h2 : q = -1
    · subst h2; simp
    · have h3 : (q == -1) = false := beq_eq_false_iff_ne.2 h2
      simp [h3]; omega
  · simp

theorem index_word (w rest sub : List UInt8) (h : ∀ b ∈ w, b ≠ 32) : (0 ≤ Lib.index (w ++ rest) (32 :: sub)) ↔ 0 ≤ Lib.index rest (32 :: sub) := by
  induction w with
  | nil => rfl
  | cons b t ih =>
    rw [List.cons_append, index_cons, ih (fun c hc => h c (List.mem_cons_of_mem _ hc))]
    have : (32 :: sub).isPrefixOf (b :: (t ++ rest)) = false := by
      have hb := h b (List.mem_cons_self)
      simp [List.isPrefixOf]
      intro e; exact absurd e.symm hb
    simp [this]

theorem prefix_word (s w rest : List UInt8) (hs : ∀ b ∈ s, b ≠ 32) (hw : ∀ b ∈ w, b ≠ 32) : (s ++ [32]).isPrefixOf (w ++ 32 :: rest) = true ↔ w = s := by
  induction s generalizing w with
  | nil =>
    cases w with
    | nil => simp [List.isPrefixOf]
    | cons c t =>
      have hc := hw c (List.mem_cons_self)
      simp [List.isPrefixOf]
      exact fun e => absurd e.symm hc
  | cons a l ih =>
    cases w with
    | nil =>
      have ha := hs a (List.mem_cons_self)
      simp [List.isPrefixOf, ha]
    | cons c t =>
      have := ih t (fun b hb => hs b (List.mem_cons_of_mem _ hb)) (fun b hb => hw b (List.mem_cons_of_mem _ hb))
      simp only [List.cons_append, List.isPrefixOf, Bool.and_eq_true, beq_iff_eq, this, List.cons.injEq]
      constructor
      · rintro ⟨h1, h2⟩; exact ⟨h1.symm, h2⟩
      · rintro ⟨h1, h2⟩; exact ⟨h1.symm, h2⟩

theorem index_words (ws : List (List UInt8)) (s : List UInt8) (hs : ∀ b ∈ s, b ≠ 32) (hw : ∀ w ∈ ws, ∀ b ∈ w, b ≠ 32) :
    (0 ≤ Lib.index (32 :: ws.flatMap (fun w => w ++ [32])) (32 :: (s ++ [32]))) ↔ s ∈ ws := by
  induction ws with
  | nil => rw [List.flatMap_nil, index_cons]; simp [Lib.index, List.isPrefixOf]
  | cons w t ih =>
    rw [List.flatMap_cons, List.append_assoc, index_cons, List.singleton_append, index_word _ _ _ (hw w (List.mem_cons_self)), ih (fun x hx => hw x (List.mem_cons_of_mem _ hx))]
    have := prefix_word s w (t.flatMap (fun w => w ++ [32])) hs (hw w (List.mem_cons_self))
    simp only [List.isPrefixOf, beq_self_eq_true, Bool.true_and, this, List.mem_cons]
    constructor
    · intro h
      rcases h with h | h
      · exact .inl h.symm
      · exact .inr h
    · intro h
      rcases h with h | h
      · exact .inl h.symm
      · exact .inr h

end Go.Proofs.YtgmijfmbbaipfaaDoor
