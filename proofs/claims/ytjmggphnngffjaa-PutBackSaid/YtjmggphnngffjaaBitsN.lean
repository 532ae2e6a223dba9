/- Contracts of awake and BitsSets of warderlaw14. -/
import Derived.Test.YtjmggphnngffjaaBitsM
namespace Go.Proofs.Ytjmggphnngffjaa
open Go.RowKit

/-- a written list in new memory reads -/
theorem Reads.lit (w : World) (us : Array Value) (e : TypeId) (n cap : Nat) (hn : n = us.size) (hm : n ≤ maxLen) : Reads (w.alloc (.cells us e)) (.slice (some ⟨w.heap.size, 0, none⟩) n cap) us.toList := by
  refine .inr ⟨w.heap.size, 0, cap, by simp [hn], by simp, by simpa [hn] using hm, fun t x hx => ?_⟩
  rw [World.cell?_alloc_at _ _ _ _ rfl, Nat.zero_add]
  simpa using hx

theorem Reads.keep {w w' : World} {v : Value} {xs : List Value} (h : Reads w v xs) (hb : Below w.heap.size w w') : Reads w' v xs := h.below (Nat.le_refl _) hb

theorem ofL_02 : ofL [0, 2] = 5 := by decide +kernel
theorem listZ_5 : listZ 5 31 = [0, 2] := by decide +kernel
theorem first_3 : firstZ 3 = 7 := by decide +kernel

theorem ofL_bd (l : List Int) : 0 ≤ ofL l ∧ ofL l < 2147483648 := by
  rw [ofL_ofB]; have := ofB_lt fun j => decide ((j : Int) ∈ l); omega

/- sets of so many numbers -/
theorem listZ_first (n : Int) : ((listZ (firstZ n) 31).length : Int) = max 0 (min n 31) := by
  have hc := clamp_le n
  have key : ∀ k, k ≤ 31 → (listZ (firstZ n) k).length = min k (clamp n) := by
    intro k
    induction k with
    | zero => intro _; simp [listZ]
    | succ k ih =>
      intro hk
      have e := hasN_first n k (by omega)
      have ih' := ih (by omega)
      unfold listZ at *
      rw [List.range_succ, List.filter_append, List.map_append, List.length_append, ih']
      by_cases h : k < clamp n
      · simp [e, h]; omega
      · simp [e, h]; omega
  rw [key 31 (by omega)]
  unfold clamp at *
  omega

theorem within_first (n m : Int) : withinB (firstZ n) (firstZ m) = decide (min n 31 ≤ max 0 m) := by
  have hn := clamp_le n
  have hm := clamp_le m
  rw [Bool.eq_iff_iff]
  unfold withinB
  rw [List.all_eq_true, decide_eq_true_eq]
  constructor
  · intro h
    by_cases hc : clamp n ≤ clamp m
    · unfold clamp at *; omega
    · have := h (clamp m) (by simp; omega)
      rw [hasN_first n _ (by omega), hasN_first m _ (by omega)] at this
      simp at this; omega
  · intro h j hj
    have hj' : j < 31 := by simpa using hj
    rw [hasN_first n j hj', hasN_first m j hj']
    have : clamp n ≤ clamp m := by unfold clamp; omega
    by_cases h1 : j < clamp n
    · simp; omega
    · simp [h1]

theorem has_first (n : Int) : hasB (firstZ n) 3 = decide (3 < n) := by
  unfold hasB
  rw [if_pos (by omega)]
  rw [show (3 : Int).toNat = 3 from rfl, hasN_first n 3 (by omega)]
  rw [Bool.eq_iff_iff, decide_eq_true_eq, decide_eq_true_eq]
  unfold clamp; omega

theorem of_listZ (s : Int) : ofL (listZ s 31) = putZ (putZ s 31 true) (-1) false := by
  rw [putZ_out _ (-1) false (by omega), putZ_out s 31 true (by omega), ofL_ofB]
  have e : lo (lo s : Int) = lo s := by unfold lo; omega
  rw [e, lo_ofB]
  rw [ofB_congr (fun j => decide ((j : Int) ∈ listZ s 31)) (hasN s) (by
    intro j hj
    unfold listZ
    rw [Bool.eq_iff_iff, decide_eq_true_eq]
    simp only [List.mem_map, List.mem_filter, List.mem_range]
    constructor
    · rintro ⟨a, ⟨_, h2⟩, h3⟩
      have : a = j := by omega
      subst this; exact h2
    · intro h; exact ⟨j, ⟨hj, h⟩, rfl⟩)]

end Go.Proofs.Ytjmggphnngffjaa
