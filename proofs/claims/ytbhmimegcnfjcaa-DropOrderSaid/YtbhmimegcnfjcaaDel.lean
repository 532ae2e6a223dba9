/- slices.Delete of one element, at []int and at []api.Class, of a slice that the caller owns. -/
import Derived.Test.YtbhmimegcnfjcaaHalveSort
import Derived.Deep.RegionLaw
namespace Go.Proofs.Ytbhmimegcnfjcaa
open Go.RowKit

def setAll (xs : List Value) : Nat → List Value → List Value
  | _, [] => xs
  | o, v :: r => setAll (xs.set o v) (o + 1) r

theorem setAll_eq (vs : List Value) : ∀ (xs : List Value) (o : Nat), o + vs.length ≤ xs.length → setAll xs o vs = xs.take o ++ vs ++ xs.drop (o + vs.length) := by
  induction vs with
  | nil => intro xs o _; simp [setAll]
  | cons v r ih =>
    intro xs o h
    simp only [List.length_cons] at h
    rw [setAll, ih _ _ (by rw [List.length_set]; omega)]
    rw [List.take_set, List.drop_set_of_lt (by omega)]
    have e1 : (xs.take (o + 1)).set o v = xs.take o ++ [v] := by
      rw [List.take_succ_eq_append_getElem (by omega), List.set_append_right _ _ (by simp; omega)]
      simp [Nat.min_eq_left (show o ≤ xs.length by omega)]
    rw [e1]
    simp only [List.append_assoc, List.cons_append, List.nil_append, List.length_cons]
    rw [show o + 1 + r.length = o + (r.length + 1) by omega]

theorem owns_setCells {base : Nat} {e : TypeId} {size g n cap : Nat} (vs : List Value) : ∀ {w : World} {xs : List Value} (o : Nat), w.ownsRow base e size (.slice (some ⟨g, 0, none⟩) n cap) n xs →
    (w.setCells g o vs).ownsRow base e size (.slice (some ⟨g, 0, none⟩) n cap) n (setAll xs o vs) := by
  induction vs with
  | nil => intro w xs o h; exact h
  | cons v r ih => intro w xs o h; exact ih (o + 1) (owns_set h o v)

theorem owns_shrink {w : World} {base : Nat} {e : TypeId} {size g n cap m : Nat} {xs : List Value} (h : w.ownsRow base e size (.slice (some ⟨g, 0, none⟩) n cap) n xs) (hm : m ≤ n) : w.ownsRow base e size (.slice (some ⟨g, 0, none⟩) m cap) m (xs.take (m * size)) := by
  have hmn : m * size ≤ n * size := Nat.mul_le_mul_right _ hm
  rcases h.2 with ⟨h0, _⟩ | ⟨g', cap', cur, hv, hb, hg, hn, hc, hs, ht⟩
  · cases h0
  · cases hv
    exact ⟨by rw [List.length_take, h.1]; omega, .inr ⟨g, cap, cur, rfl, hb, hg, by omega, hc, hs, by rw [← ht, List.take_take, Nat.min_eq_left hmn]⟩⟩

theorem grown_setCells {w : World} {g : Nat} (vs : List Value) : ∀ {wr : World} (o : Nat), w.grownBy wr (some g) → w.grownBy (wr.setCells g o vs) (some g) := by
  induction vs with
  | nil => intro wr o h; exact h
  | cons v r ih => intro wr o h; exact ih (o + 1) (grown_set h v)

theorem owns_drew {w : World} {base : Nat} {e : TypeId} {size n : Nat} {v : Value} {xs : List Value} (h : w.ownsRow base e size v n xs) : w.drew.ownsRow base e size v n xs := h

theorem info_class : (Try.prog.info? 88).map (fun i => (i.zero, i.size, i.bytes)) = some (some (.agg #[.int .i64 0, .int .i64 0]), 2, 16) := by kernel_rfl
theorem info_int' : (Try.prog.info? 3).map (fun i => (i.zero, i.size, i.bytes)) = some (some (.int .i64 0), 1, 8) := by kernel_rfl

/-- clear of one element -/
theorem run_clear_one {P : Program} (w : World) (t e ty : TypeId) (z : Value) (zc : List Value) (ht : P.underlying t = some (.slice e)) (hv : (zeroValue e).run P w = .ok z w) (hz : (Builtin.zeroCells z.cells 1).toList = zc) (h1 : ∀ v ∈ zc, v.oneCell' = true) (b o c : Nat)
    (hc : ∀ j, j < zc.length → (w.cell? ⟨b, o + j, none⟩).isSome = true) (hf : ∀ j, j < zc.length → w.frozen? ⟨b, o + j, none⟩ = false) :
    (Builtin.clear_ #[t] ty #[.slice (some ⟨b, o, none⟩) 1 c]).run P w = .ok (.tuple #[]) (w.setCells b o zc) := by
  have hst := run_storeCells_cells (P := P) b o zc 0 w (by simpa using hc) (by simpa using hf) h1
  simp only [Nat.add_zero] at hst
  simp [Builtin.clear_, run_underlying ht, hv, hz, hst]

theorem setAll_len (vs : List Value) : ∀ (xs : List Value) (o : Nat), (setAll xs o vs).length = xs.length := by
  induction vs with
  | nil => intro xs o; rfl
  | cons v r ih => intro xs o; rw [setAll, ih, List.length_set]

theorem zero_one (cs : Array Value) : (Builtin.zeroCells cs 1).toList = cs.toList := by
  apply List.ext_getElem
  · simp [Builtin.zeroCells]
  · intro i h1 h2
    simp only [Array.length_toList] at h2
    simp [Builtin.zeroCells, Nat.mod_eq_of_lt h2, h2]

theorem set_take (xs vs zc : List Value) (i o : Nat) (h1 : i + vs.length = o) (h2 : o + zc.length ≤ xs.length) : (setAll (setAll xs i vs) o zc).take o = xs.take i ++ vs := by
  rw [setAll_eq zc _ _ (by rw [setAll_len]; exact h2), setAll_eq vs xs i (by omega)]
  rw [List.append_assoc, List.take_append_of_le_length (by simp; omega), List.take_take, Nat.min_self]
  rw [List.take_append_of_le_length (by simp; omega)]
  exact List.take_of_length_le (by simp; omega)

theorem zero_class (w : World) : (zeroValue 88).run Try.prog w = .ok (.agg #[.int .i64 0, .int .i64 0]) w := by
  obtain ⟨i0, hi0, hz0, _⟩ := info_parts info_class
  simp [zeroValue, typeInfo, hi0, hz0]

set_option maxHeartbeats 1600000 in
set_option maxRecDepth 1000000 in
theorem del_int (g n cap base i : Nat) (xs : List Value) (w : World) (hown : w.ownsRow base 3 1 (.slice (some ⟨g, 0, none⟩) n cap) n xs) (h1c : ∀ u ∈ xs, u.oneCell' = true) (hi : i < n) (hm : cap ≤ 9223372036854775807) :
    Calls Try.prog 81 #[.slice (some ⟨g, 0, none⟩) n cap, .int .i64 i, .int .i64 (i + 1)] w fun e w' => e = .returned (.slice (some ⟨g, 0, none⟩) (n - 1) cap) ∧
      w'.ownsRow base 3 1 (.slice (some ⟨g, 0, none⟩) (n - 1) cap) (n - 1) (xs.take i ++ xs.drop (i + 1)) ∧ w.grownBy w' (some g) := by
  obtain ⟨i0, hi0, hz0, hz1, hz2⟩ := info_parts info_int'
  have hlen : xs.length = n := by have := hown.1; omega
  have hnc : n ≤ cap := by
    rcases hown.2 with ⟨h0, _⟩ | ⟨g', cap', cur, hv, hb, hg, hn, _⟩
    · cases h0
    · cases hv; exact hn
  obtain ⟨news, hnews⟩ : ∃ news, xs.drop (i + 1) = news := ⟨_, rfl⟩
  have hnl : news.length = n - (i + 1) := by rw [← hnews, List.length_drop, hlen]
  obtain ⟨A, hA, hnw⟩ : ∃ A : Addr, (if cap = i + 1 then some (⟨g, 0, none⟩ : Addr) else some ⟨g, i + 1, none⟩) = some A ∧ Hid (∀ j u, news[j]? = some u → w.drew.cell? (A.add j) = some u) := by
    by_cases h : cap = i + 1
    · refine ⟨⟨g, 0, none⟩, by simp [h], fun j u hu => ?_⟩
      have := (List.getElem?_eq_some_iff.1 hu).1
      omega
    · refine ⟨⟨g, i + 1, none⟩, by simp [h], fun j u hu => ?_⟩
      have hj : j < n - (i + 1) := by have := (List.getElem?_eq_some_iff.1 hu).1; omega
      rw [Addr.add_lit]
      rw [← hnews, List.getElem?_drop] at hu
      exact (hown.cellAt _ (by omega)).trans hu
  have s1 : Hid (news.length = (n - (i + 1)) * 1) := by unfold Hid; omega
  have s2 : Hid (∀ u ∈ news, u.oneCell' = true) := by unfold Hid; intro u hu; rw [← hnews] at hu; exact h1c u (List.mem_of_mem_drop hu)
  have s3 : Hid (∀ j, j < news.length → (w.drew.cell? ⟨g, 0 + i * 1 + j, none⟩).isSome = true ∧ w.drew.frozen? ⟨g, 0 + i * 1 + j, none⟩ = false) := by
    intro j hj
    refine ⟨?_, owns_frozen hown _⟩
    have e : w.drew.cell? ⟨g, 0 + i * 1 + j, none⟩ = xs[0 + i * 1 + j]? := hown.cellAt _ (by omega)
    rw [e, List.getElem?_eq_getElem (by omega)]; rfl
  have hic : i ≤ cap := by omega
  have hwr : IntKind.i64.wrap ((i : Int) + 1) = (i : Int) + 1 := by rw [IntKind.wrap_i64]; omega
  have hp0 : (0 : Int) ≤ (i : Int) + 1 := by omega
  have hp1 : (i : Int) + 1 ≤ (n : Int) := by omega
  have hp2 : ((i : Int) + 1).toNat = i + 1 := by omega
  have hne : ((i : Int) == (i : Int) + 1) = false := by simp; omega
  have hadd : i + (n - (i + 1)) = n - 1 := by omega
  have hcnt : n - (n - 1) = 1 := by omega
  have hcn : ((i : Int) + ((n - (i + 1) : Nat) : Int)) = ((n - 1 : Nat) : Int) := by omega
  have HS := Lib.hid (owns_setCells news i (owns_drew hown))
  have kc : ∀ ty, (Builtin.clear_ #[22] ty #[.slice (some ⟨g, n - 1, none⟩) 1 (cap - (n - 1))]).run Try.prog (w.drew.setCells g i news) = .ok (.tuple #[]) ((w.drew.setCells g i news).setCells g (n - 1) [.int .i64 0]) := fun ty =>
    run_clear_one _ _ 3 ty (.int .i64 0) [.int .i64 0] Try.underlying22 (Try.zeroValue3 _) (zero_one _) (by simp [Value.oneCell']) g (n - 1) _ (fun j hj => by
      have hj' : j < 1 := by simpa using hj
      rw [HS.out.cellAt _ (by omega), List.getElem?_eq_getElem (by rw [setAll_len]; omega)]; rfl) (fun j _ => owns_frozen HS.out _)
  have HO := Lib.hid hown
  have HN := Lib.hid hnews
  clear hown hnews h1c
  go_enter Try.func81, Try.ntmps81
  go_wp2_with fail
  go_region_law (refine step_append_room rfl (.tmp 22) (.tmp 25) 22 rfl 3 i0 1 Try.underlying22 hi0 hz1 g 0 i cap (by simp [Act.eval, Act.put]) A (n - (i + 1)) (cap - (i + 1)) news (by simp [Act.eval, Act.put]) s1.out hnw.out s2.out (by omega) s3.out ?_)
  go_wp2
  go_ret
  refine ⟨rfl, ?_, grown_setCells _ _ (grown_setCells _ _ (grown_drew ⟨rfl, rfl, rfl, Nat.le_refl _, fun _ _ _ => rfl⟩))⟩
  have h3 := owns_shrink (owns_setCells [.int .i64 0] (n - 1) HS.out) (show n - 1 ≤ n by omega)
  rw [Nat.mul_one] at h3
  rw [set_take xs news [.int .i64 0] _ _ (by omega) (by simp; omega)] at h3
  rw [HN.out]
  exact h3


set_option maxHeartbeats 1600000 in
set_option maxRecDepth 1000000 in
theorem del_cls (g n cap base i : Nat) (xs : List Value) (w : World) (hown : w.ownsRow base 88 2 (.slice (some ⟨g, 0, none⟩) n cap) n xs) (h1c : ∀ u ∈ xs, u.oneCell' = true) (hi : i < n) (hm : cap ≤ 9223372036854775807) :
    Calls Try.prog 82 #[.slice (some ⟨g, 0, none⟩) n cap, .int .i64 i, .int .i64 (i + 1)] w fun e w' => e = .returned (.slice (some ⟨g, 0, none⟩) (n - 1) cap) ∧
      w'.ownsRow base 88 2 (.slice (some ⟨g, 0, none⟩) (n - 1) cap) (n - 1) (xs.take (i * 2) ++ xs.drop ((i + 1) * 2)) ∧ w.grownBy w' (some g) := by
  obtain ⟨i0, hi0, hz0, hz1, hz2⟩ := info_parts info_class
  have hlen : xs.length = n * 2 := by have := hown.1; omega
  have hnc : n ≤ cap := by
    rcases hown.2 with ⟨h0, _⟩ | ⟨g', cap', cur, hv, hb, hg, hn, _⟩
    · cases h0
    · cases hv; exact hn
  obtain ⟨news, hnews⟩ : ∃ news, xs.drop ((i + 1) * 2) = news := ⟨_, rfl⟩
  have hnl : news.length = (n - (i + 1)) * 2 := by rw [← hnews, List.length_drop, hlen]; omega
  obtain ⟨A, hA, hnw⟩ : ∃ A : Addr, (if cap = i + 1 then some (⟨g, 0, none⟩ : Addr) else some ⟨g, (i + 1) * 2, none⟩) = some A ∧ Hid (∀ j u, news[j]? = some u → w.drew.cell? (A.add j) = some u) := by
    by_cases h : cap = i + 1
    · refine ⟨⟨g, 0, none⟩, by simp [h], fun j u hu => ?_⟩
      have := (List.getElem?_eq_some_iff.1 hu).1
      omega
    · refine ⟨⟨g, (i + 1) * 2, none⟩, by simp [h], fun j u hu => ?_⟩
      have hj : j < (n - (i + 1)) * 2 := by have := (List.getElem?_eq_some_iff.1 hu).1; omega
      rw [Addr.add_lit]
      rw [← hnews, List.getElem?_drop] at hu
      exact (hown.cellAt _ (by omega)).trans hu
  have s1 : Hid (news.length = (n - (i + 1)) * 2) := by unfold Hid; omega
  have s2 : Hid (∀ u ∈ news, u.oneCell' = true) := by unfold Hid; intro u hu; rw [← hnews] at hu; exact h1c u (List.mem_of_mem_drop hu)
  have s3 : Hid (∀ j, j < news.length → (w.drew.cell? ⟨g, 0 + i * 2 + j, none⟩).isSome = true ∧ w.drew.frozen? ⟨g, 0 + i * 2 + j, none⟩ = false) := by
    intro j hj
    refine ⟨?_, owns_frozen hown _⟩
    have e : w.drew.cell? ⟨g, 0 + i * 2 + j, none⟩ = xs[0 + i * 2 + j]? := hown.cellAt _ (by omega)
    rw [e, List.getElem?_eq_getElem (by omega)]; rfl
  have hic : i ≤ cap := by omega
  have hwr : IntKind.i64.wrap ((i : Int) + 1) = (i : Int) + 1 := by rw [IntKind.wrap_i64]; omega
  have hp0 : (0 : Int) ≤ (i : Int) + 1 := by omega
  have hp1 : (i : Int) + 1 ≤ (n : Int) := by omega
  have hp2 : ((i : Int) + 1).toNat = i + 1 := by omega
  have hne : ((i : Int) == (i : Int) + 1) = false := by simp; omega
  have hadd : i + (n - (i + 1)) = n - 1 := by omega
  have hcnt : n - (n - 1) = 1 := by omega
  have hcn : ((i : Int) + ((n - (i + 1) : Nat) : Int)) = ((n - 1 : Nat) : Int) := by omega
  have HS := Lib.hid (owns_setCells news (i * 2) (owns_drew hown))
  have kc : ∀ ty, (Builtin.clear_ #[53] ty #[.slice (some ⟨g, (n - 1) * 2, none⟩) 1 (cap - (n - 1))]).run Try.prog (w.drew.setCells g (i * 2) news) = .ok (.tuple #[]) ((w.drew.setCells g (i * 2) news).setCells g ((n - 1) * 2) [.int .i64 0, .int .i64 0]) := fun ty =>
    run_clear_one _ _ 88 ty (.agg #[.int .i64 0, .int .i64 0]) [.int .i64 0, .int .i64 0] Try.underlying53 (zero_class _) (zero_one _) (by simp [Value.oneCell']) g ((n - 1) * 2) _ (fun j hj => by
      have hj' : j < 2 := by simpa using hj
      rw [HS.out.cellAt _ (by omega), List.getElem?_eq_getElem (by rw [setAll_len]; omega)]; rfl) (fun j _ => owns_frozen HS.out _)
  have HO := Lib.hid hown
  have HN := Lib.hid hnews
  clear hown hnews h1c
  go_enter Try.func82, Try.ntmps82
  go_wp2_with fail
  go_region_law (refine step_append_room rfl (.tmp 22) (.tmp 25) 53 rfl 88 i0 2 Try.underlying53 hi0 hz1 g 0 i cap (by simp [Act.eval, Act.put]) A (n - (i + 1)) (cap - (i + 1)) news (by simp [Act.eval, Act.put]) s1.out hnw.out s2.out (by omega) s3.out ?_)
  go_wp2
  go_ret
  refine ⟨rfl, ?_, grown_setCells _ _ (grown_setCells _ _ (grown_drew ⟨rfl, rfl, rfl, Nat.le_refl _, fun _ _ _ => rfl⟩))⟩
  have h3 := owns_shrink (owns_setCells [.int .i64 0, .int .i64 0] ((n - 1) * 2) HS.out) (show n - 1 ≤ n by omega)
  rw [set_take xs news [.int .i64 0, .int .i64 0] _ _ (by omega) (by simp; omega)] at h3
  rw [HN.out]
  exact h3

end Go.Proofs.Ytbhmimegcnfjcaa
