/- Plain: the tokens of two texts, a line's end between. -/
import Derived.Test.YthlofmnmacpogaaGreatDoorDf16

namespace Go.Proofs.YthlofmnmacpogaaGreatDoor
open Go.RowKit

def jn (a b : ByteArray) : ByteArray := a ++ ⟨#[10]⟩ ++ b
theorem jn_size (a b : ByteArray) : (jn a b).size = a.size + 1 + b.size := by
  unfold jn
  rw [ByteArray.size_append, ByteArray.size_append]; rfl
theorem jn_list (a b : ByteArray) : (jn a b).data.toList = a.data.toList ++ (10 :: b.data.toList) := by
  unfold jn
  simp [ByteArray.data_append]
theorem ba_len (a : ByteArray) : a.data.toList.length = a.size := by simp
theorem jn_next (a b : ByteArray) : (jn a b).get! (0 + a.size) = 10 := by
  rw [get_list, jn_list, List.getD_eq_getElem?_getD, List.getElem?_append_right (by rw [ba_len]; omega), ba_len, Nat.zero_add, Nat.sub_self]; rfl
theorem take_drop_left {l m : List UInt8} {f t : Nat} (ht : t ≤ l.length) : List.take (t - f) (List.drop f (l ++ m)) = List.take (t - f) (List.drop f l) := by
  by_cases hf : f ≤ l.length
  · rw [List.drop_append_of_le_length hf, List.take_append_of_le_length (by rw [List.length_drop]; omega)]
  · rw [show t - f = 0 by omega]; rfl
theorem jn_left (a b : ByteArray) : Inner a (jn a b) 0 where
  byte := fun k hk => by
    rw [get_list, get_list, jn_list, List.getD_eq_getElem?_getD, List.getD_eq_getElem?_getD, Nat.zero_add, List.getElem?_append_left (by rw [ba_len]; exact hk)]
  next := .inl ⟨by rw [jn_size]; omega, jn_next a b⟩
  cut := fun f t ht => by
    apply ba_ext
    rw [ext_list, ext_list, jn_list, Nat.add_zero, Nat.add_zero]
    exact take_drop_left (by rw [ba_len]; exact ht)
theorem jn_right (a b : ByteArray) : Inner b (jn a b) (a.size + 1) where
  byte := fun k hk => by
    rw [get_list, get_list, jn_list, List.getD_eq_getElem?_getD, List.getD_eq_getElem?_getD, List.getElem?_append_right (by rw [ba_len]; omega), ba_len, show a.size + 1 + k - a.size = k + 1 by omega, List.getElem?_cons_succ]
  next := .inr (by rw [jn_size])
  cut := fun f t ht => by
    apply ba_ext
    rw [ext_list, ext_list, jn_list, show t + (a.size + 1) - (f + (a.size + 1)) = t - f by omega]
    rw [List.drop_append, ba_len, List.drop_eq_nil_of_le (by rw [ba_len]; omega), List.nil_append, show f + (a.size + 1) - a.size = f + 1 by omega]
    rfl

theorem jn_runes (a b : ByteArray) : ∃ Ya x Yb, allR (jn a b) = Ya ++ (x :: Yb) ∧ ShL 0 (allR a) Ya ∧ x.r = 10 ∧ ShL (a.size + 1) (allR b) Yb := by
  have d := dec_ascii (P := jn a b) (p := 0 + a.size) (by rw [jn_next]; decide)
  rw [jn_next] at d
  have hs := jn_size a b
  obtain ⟨Ya, l2, c2, e, hY⟩ := (jn_left a b).runes (a.size - 0) 0 1 1 1 1 (by omega) (by omega)
  obtain ⟨Yb, l4, c4, e2, hY2⟩ := (jn_right a b).runes (b.size - 0) 0 1 1 (nextLine ((10 : UInt8).toNat : Int) l2) (nextCol ((10 : UInt8).toNat : Int) c2) (by omega) (by omega)
  refine ⟨Ya, ⟨((10 : UInt8).toNat : Int), 0 + a.size, 0 + a.size + 1, l2, c2⟩, Yb, ?_, hY, ?_, hY2⟩
  · show restG (decR (jn a b)) (jn a b) (0 + 0) 1 1 = _
    rw [e, restG_cons _ _ _ _ _ (show 0 + a.size < (jn a b).size by omega), d.1, d.2, show 0 + a.size + 1 = a.size + 1 + 0 by omega, e2, restG_nil _ _ _ _ _ (by omega), List.append_nil]
  · rfl

theorem run_er {P : ByteArray} {h1 : ¬ 16384 < (allR P).length} (h : (runT P (allR P) (allR P).length 0 []).er = 3) : (tokRes P).er = 3 := by
  unfold tokRes
  rw [if_neg h1, if_pos (by omega)]
  exact h
/-- the tokens of two texts, a line's end between -/
theorem jn_tok {a b : ByteArray} (ha : a.size ≤ 3000) (hb : b.size ≤ 3000) (ea : (tokRes a).er = 0) (eb : (tokRes b).er = 0) : ∃ Ra Rb, (tokRes a).T = Ra ++ [endTk a] ∧ (tokRes b).T = Rb ++ [endTk b] ∧ (∀ x ∈ Ra, x.kind ≠ 5) ∧ (∀ x ∈ Rb, x.kind ≠ 5) ∧
    ((tokRes (jn a b)).er = 3 ∨ ((tokRes (jn a b)).er = 0 ∧ ∃ A2 B2, TwinL Ra A2 ∧ TwinL Rb B2 ∧ (tokRes (jn a b)).T = A2 ++ B2 ++ [endTk (jn a b)])) := by
  obtain ⟨Ya, x, Yb, e, hA, hx, hB⟩ := jn_runes a b
  have la : (allR a).length ≤ a.size := by have := restG_len (decR a) a 0 1 1; simpa [allR] using this
  have lb : (allR b).length ≤ b.size := by have := restG_len (decR b) b 0 1 1; simpa [allR] using this
  have oka := rnOk a (by omega)
  have okb := rnOk b (by omega)
  have hla := hA.1
  have hlb := hB.1
  have hln : (allR (jn a b)).length = (allR a).length + 1 + (allR b).length := by rw [e, hla, hlb]; simp; omega
  have ex : (allR (jn a b))[(allR a).length]? = some x := by rw [e, hla, List.getElem?_append_right (Nat.le_refl _), Nat.sub_self]; rfl
  have r10 : rAt (allR (jn a b)) (allR a).length = 10 := by rw [rAt_some ex, hx]
  have SA : Shf a (jn a b) (allR a) (allR (jn a b)) 0 0 := ⟨fun j y hy => by
      obtain ⟨z, hz, h1, h2, h3⟩ := hA.2 j y hy
      exact ⟨z, by rw [e, Nat.add_zero, List.getElem?_append_left (List.getElem?_eq_some_iff.1 hz).1]; exact hz, h1, h2, h3⟩,
    .inl r10, (jn_left a b).cut, fun j y hy => (oka.le j j y y (Nat.le_refl _) hy hy).2⟩
  have SB : Shf b (jn a b) (allR b) (allR (jn a b)) ((allR a).length + 1) (a.size + 1) := ⟨fun j y hy => by
      obtain ⟨z, hz, h1, h2, h3⟩ := hB.2 j y hy
      refine ⟨z, ?_, h1, h2, h3⟩
      rw [e, hla, List.getElem?_append_right (by omega), show j + (Ya.length + 1) - Ya.length = j + 1 by omega, List.getElem?_cons_succ]
      exact hz,
    .inr ⟨rAt_none (by omega), by omega⟩, (jn_right a b).cut, fun j y hy => (okb.le j j y y (Nat.le_refl _) hy hy).2⟩
  have ru : ∀ s : ByteArray, (tokRes s).er = 0 → (allR s).length ≤ 16384 → (runT s (allR s) (allR s).length 0 []).er = 0 ∧ (tokRes s).T = (runT s (allR s) (allR s).length 0 []).T ++ [endTk s] := by
    intro s he hl
    unfold tokRes at he ⊢
    rw [if_neg (by omega)] at he ⊢
    by_cases q : (runT s (allR s) (allR s).length 0 []).er ≠ 0
    · rw [if_pos q] at he; exact absurd he q
    · rw [if_neg q]; exact ⟨by omega, rfl⟩
  have ki : ∀ s : ByteArray, (tokRes s).er = 0 → ∀ R, (tokRes s).T = R ++ [endTk s] → ∀ x ∈ R, x.kind ≠ 5 := by
    intro s he R hR y hy
    obtain ⟨R0, hR0, _, _, hk, _⟩ := tokRes_rises s he
    rw [hR0] at hR
    have := (List.append_inj' hR rfl).1
    subst this
    have := hk y hy
    omega
  obtain ⟨ua0, ua1⟩ := ru a ea (by omega)
  obtain ⟨ub0, ub1⟩ := ru b eb (by omega)
  refine ⟨_, _, ua1, ub1, ki a ea _ ua1, ki b eb _ ub1, ?_⟩
  have hcap : ¬ 16384 < (allR (jn a b)).length := by omega
  rcases SA.run_cap [] (allR a).length 0 [] [] (by omega) (by omega) TwinL.nil ua0 (allR (jn a b)).length (by omega) with ⟨k3, T3, hk3, hT3, hr⟩ | h3
  · obtain ⟨k4, rfl⟩ : ∃ q, k3 = q + 1 := ⟨k3 - 1, by omega⟩
    simp only [Nat.add_zero, List.nil_append] at hr
    rw [run_step (by omega) (one_blank r10)] at hr
    rcases SB.run_cap T3 (allR b).length 0 [] [] (by omega) (by omega) TwinL.nil ub0 k4 (by omega) with ⟨k5, T5, hk5, hT5, hr2⟩ | h3
    · rw [Nat.zero_add, List.append_nil] at hr2
      rw [hr2] at hr
      have hend : runT (jn a b) (allR (jn a b)) k5 ((allR b).length + ((allR a).length + 1)) (T3 ++ T5) = ⟨0, 0, 0, (allR b).length + ((allR a).length + 1), T3 ++ T5⟩ := by
        cases k5 with
        | zero => rfl
        | succ k5 => rw [runT, if_neg (by omega)]
      rw [hend] at hr
      refine .inr ⟨?_, T3, T5, hT3, hT5, ?_⟩
      · unfold tokRes
        rw [if_neg hcap, hr]; rfl
      · unfold tokRes
        rw [if_neg hcap, hr]; rfl
    · rw [Nat.zero_add, List.append_nil] at h3
      refine .inl (run_er (h1 := hcap) ?_)
      rw [hr]; exact h3
  · exact .inl (run_er (h1 := hcap) h3)

end Go.Proofs.YthlofmnmacpogaaGreatDoor
