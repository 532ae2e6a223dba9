/- slices.Delete of one element, at []int and at []api.Class, of a slice that the caller owns. -/
import Derived.Test.YtjmggphnngffjaaHalveSort
import Derived.Deep.RegionLaw
namespace Go.Proofs.Ytjmggphnngffjaa
open Go.RowKit

def setAll (xs : List Value) : Nat → List Value → List Value
  | _, [] => xs
  | o, v :: r => setAll (xs.set o v) (o + 1) r

theorem setAll_eq (vs : List Value) : ∀ (xs : List Value) (o : Nat), o + vs.length ≤ xs.length → setAll xs o vs = xs.take o ++ vs ++ xs.drop (o + vs.length) := by
  induction vs with
  | nil => intro xs o _; simp [setAll]
  | cons v r ih =>
    intro xs o h
    simp only [List.length_cons] at h
    rw [setAll, ih _ _ (by rw [List.length_set]; omega)]
    rw [List.take_set, List.drop_set_of_lt (by omega)]
    have e1 : (xs.take (o + 1)).set o v = xs.take o ++ [v] := by
      rw [List.take_succ_eq_append_getElem (by omega), List.set_append_right _ _ (by simp; omega)]
      simp [Nat.min_eq_left (show o ≤ xs.length by omega)]
    rw [e1]
    simp only [List.append_assoc, List.cons_append, List.nil_append, List.length_cons]
    rw [show o + 1 + r.length = o + (r.length + 1) by omega]

theorem owns_setCells {base : Nat} {e : TypeId} {size g n cap : Nat} (vs : List Value) : ∀ {w : World} {xs : List Value} (o : Nat), w.ownsRow base e size (.slice (some ⟨g, 0, none⟩) n cap) n xs →
    (w.setCells g o vs).ownsRow base e size (.slice (some ⟨g, 0, none⟩) n cap) n (setAll xs o vs) := by
  induction vs with
  | nil => intro w xs o h; exact h
  | cons v r ih => intro w xs o h; exact ih (o + 1) (owns_set h o v)

theorem owns_shrink {w : World} {base : Nat} {e : TypeId} {size g n cap m : Nat} {xs : List Value} (h : w.ownsRow base e size (.slice (some ⟨g, 0, none⟩) n cap) n xs) (hm : m ≤ n) : w.ownsRow base e size (.slice (some ⟨g, 0, none⟩) m cap) m (xs.take (m * size)) := by
  have hmn : m * size ≤ n * size := Nat.mul_le_mul_right _ hm
  rcases h.2 with ⟨h0, _⟩ | ⟨g', cap', cur, hv, hb, hg, hn, hc, hs, ht⟩
  · cases h0
  · cases hv
    exact ⟨by rw [List.length_take, h.1]; omega, .inr ⟨g, cap, cur, rfl, hb, hg, by omega, hc, hs, by rw [← ht, List.take_take, Nat.min_eq_left hmn]⟩⟩

theorem grown_setCells {w : World} {g : Nat} (vs : List Value) : ∀ {wr : World} (o : Nat), w.grownBy wr (some g) → w.grownBy (wr.setCells g o vs) (some g) := by
  induction vs with
  | nil => intro wr o h; exact h
  | cons v r ih => intro wr o h; exact ih (o + 1) (grown_set h v)

theorem owns_drew {w : World} {base : Nat} {e : TypeId} {size n : Nat} {v : Value} {xs : List Value} (h : w.ownsRow base e size v n xs) : w.drew.ownsRow base e size v n xs := h

theorem info_class : (Try.prog.info? 63).map (fun i => (i.zero, i.size, i.bytes)) = some (some (.agg #[.int .i64 0, .int .i64 0]), 2, 16) := by kernel_rfl
theorem info_int' : (Try.prog.info? 3).map (fun i => (i.zero, i.size, i.bytes)) = some (some (.int .i64 0), 1, 8) := by kernel_rfl

/-- clear of one element -/
theorem run_clear_one {P : Program} (w : World) (t e ty : TypeId) (z : Value) (zc : List Value) (ht : P.underlying t = some (.slice e)) (hv : (zeroValue e).run P w = .ok z w) (hz : (Builtin.zeroCells z.cells 1).toList = zc) (h1 : ∀ v ∈ zc, v.oneCell' = true) (b o c : Nat)
    (hc : ∀ j, j < zc.length → (w.cell? ⟨b, o + j, none⟩).isSome = true) (hf : ∀ j, j < zc.length → w.frozen? ⟨b, o + j, none⟩ = false) :
    (Builtin.clear_ #[t] ty #[.slice (some ⟨b, o, none⟩) 1 c]).run P w = .ok (.tuple #[]) (w.setCells b o zc) := by
  have hst := run_storeCells_cells (P := P) b o zc 0 w (by simpa using hc) (by simpa using hf) h1
  simp only [Nat.add_zero] at hst
  simp [Builtin.clear_, run_underlying ht, hv, hz, hst]

theorem setAll_len (vs : List Value) : ∀ (xs : List Value) (o : Nat), (setAll xs o vs).length = xs.length := by
  induction vs with
  | nil => intro xs o; rfl
  | cons v r ih => intro xs o; rw [setAll, ih, List.length_set]

theorem zero_one (cs : Array Value) : (Builtin.zeroCells cs 1).toList = cs.toList := by
  apply List.ext_getElem
  · simp [Builtin.zeroCells]
  · intro i h1 h2
    simp only [Array.length_toList] at h2
    simp [Builtin.zeroCells, Nat.mod_eq_of_lt h2, h2]

theorem set_take (xs vs zc : List Value) (i o : Nat) (h1 : i + vs.length = o) (h2 : o + zc.length ≤ xs.length) : (setAll (setAll xs i vs) o zc).take o = xs.take i ++ vs := by
  rw [setAll_eq zc _ _ (by rw [setAll_len]; exact h2), setAll_eq vs xs i (by omega)]
  rw [List.append_assoc, List.take_append_of_le_length (by simp; omega), List.take_take, Nat.min_self]
  rw [List.take_append_of_le_length (by simp; omega)]
  exact List.take_of_length_le (by simp; omega)

theorem zero_class (w : World) : (zeroValue 63).run Try.prog w = .ok (.agg #[.int .i64 0, .int .i64 0]) w := by
  obtain ⟨i0, hi0, hz0, _⟩ := info_parts info_class
  simp [zeroValue, typeInfo, hi0, hz0]

end Go.Proofs.Ytjmggphnngffjaa
