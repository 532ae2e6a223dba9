/- Contracts of Same of warderref21, Outer of package halve, awake of warderlaw21. -/
import Derived.Test.YtbhmimegcnfjcaaHalveRef
import Derived.Test.YtbhmimegcnfjcaaBitsN
namespace Go.Proofs.Ytbhmimegcnfjcaa
open Go.RowKit
attribute [local go_sem] eq_pair

theorem neq_pair (w : World) (a b c d : Int) : (Op.equalIn 10000 48 (.agg #[.int .i64 a, .int .i64 b]) (.agg #[.int .i64 c, .int .i64 d])).run Try.prog w = .ok (a == c && b == d) w := eq_pair a b c d w

set_option maxHeartbeats 2000000 in
/-- Same, where both are the same -/
theorem rpSame_eq (base base' : Nat) (v v' : Value) (l : List (Int × Int)) (w : World) (h1 : w.ownsRow base 48 2 v l.length (cellsP l)) (h2 : w.ownsRow base' 48 2 v' l.length (cellsP l)) (hl : l.length ≤ 8388608) :
    Calls Try.prog 47 #[v, v'] w fun e w' => e = .returned (.bool true) ∧ Below w.heap.size w w' := by
  by_cases h0 : l.length = 0
  · have hl0 : l = [] := List.length_eq_zero_iff.1 h0
    subst hl0
    rcases h1.2 with ⟨rfl, _⟩ | ⟨g, cap, cur, rfl, _⟩ <;> rcases h2.2 with ⟨rfl, _⟩ | ⟨g', cap', cur', rfl, _⟩
    all_goals
      go_enter Try.func47, Try.ntmps47
      go_wp2
      refine wp_loop_rounds 1 ?_
      rw [rounds_succ]
      go_wp2
      go_ret
      exact ⟨rfl, Below.refl _ _⟩
  · obtain ⟨g, cap, rfl⟩ := owns_slice h1 (by omega)
    obtain ⟨g', cap', rfl⟩ := owns_slice h2 (by omega)
    have hg1 : g < w.heap.size := (h1.lt g rfl).2
    have hg2 : g' < w.heap.size := (h2.lt g' rfl).2
    obtain ⟨n, hn⟩ : ∃ n, l.length = n := ⟨_, rfl⟩
    have HN := Lib.hid hn
    rw [hn] at h1 h2 hl h0 ⊢
    have H1 := Lib.hid h1
    have H2 := Lib.hid h2
    clear hn h1 h2
    go_enter Try.func47, Try.ntmps47
    go_wp2
    go_loopw [5] (fun i wr => ∃ k : Nat, k ≤ n ∧ i = .int .i64 k ∧ Hid (Below w.heap.size w wr)) (fun i _ => n - (intOf i).toNat)
    case atStart => exact ⟨0, Nat.zero_le _, rfl, Below.refl _ _⟩
    case round =>
      obtain ⟨k, hk, rfl, hb⟩ := hrel
      by_cases hlt : k < n
      · have hkl : k < l.length := by rw [HN.out]; exact hlt
        obtain ⟨x, hx⟩ : ∃ x, l[k]? = some x := ⟨_, List.getElem?_eq_getElem hkl⟩
        have cx := cellsP_get _ _ _ hx
        have c1 : wr.cell? ⟨g, k * 2, none⟩ = some (.int .i64 x.1) := (hb.out.cell (p := ⟨g, k * 2, none⟩) hg1).trans (by rw [H1.out.cellAt _ (by omega)]; exact cx.1)
        have c2 : wr.cell? ⟨g, k * 2 + 1, none⟩ = some (.int .i64 x.2) := (hb.out.cell (p := ⟨g, k * 2 + 1, none⟩) hg1).trans (by rw [H1.out.cellAt _ (by omega)]; exact cx.2)
        have c3 : wr.cell? ⟨g', k * 2, none⟩ = some (.int .i64 x.1) := (hb.out.cell (p := ⟨g', k * 2, none⟩) hg2).trans (by rw [H2.out.cellAt _ (by omega)]; exact cx.1)
        have c4 : wr.cell? ⟨g', k * 2 + 1, none⟩ = some (.int .i64 x.2) := (hb.out.cell (p := ⟨g', k * 2 + 1, none⟩) hg2).trans (by rw [H2.out.cellAt _ (by omega)]; exact cx.2)
        have p1 : (k : Int) < (n : Int) := by omega
        obtain ⟨x1, x2⟩ := x
        dsimp only at c1 c2 c3 c4
        clear cx hx
        go_wp2
        go_quiet (fail)
        go_wp2
        go_roundw
        case rel => exact ⟨k + 1, by omega, by go_num, Lib.hid (below_drewN hb.out _)⟩
        case measure => simp [intOf]; omega
      · obtain rfl : k = n := by omega
        go_wp2
        go_ret
        exact ⟨rfl, hb.out⟩

/-- how far a number may be put -/
def outL (r : Int) : List Int := if r < 1 then [] else (List.range (kap (r - 1) + 1)).map fun i : Nat => (i : Int)

set_option maxHeartbeats 2000000 in
theorem outer_any (r : Int) (w : World) (hr2 : r ≤ 9223372036854775807) :
    Calls Try.prog 49 #[.int .i64 r] w fun e w' => ∃ v, e = .returned v ∧ w'.ownsRow w.heap.size 3 1 v (outL r).length (ints (outL r)) ∧ Below w.heap.size w w' := by
  by_cases hr0 : r < 1
  · have H : Hid (outL r = []) := by unfold Hid outL; rw [if_pos hr0]
    go_enter Try.func49, Try.ntmps49
    go_wp2
    go_ret
    exact ⟨_, rfl, by rw [H.out]; exact World.ownsRow_nil _ _ _ _, Below.refl _ w⟩
  · obtain ⟨h, hh⟩ : ∃ h, kap (r - 1) = h := ⟨_, rfl⟩
    have hle := kap_le (r - 1)
    rw [hh] at hle
    have HR : Hid (outL r = (List.range (h + 1)).map fun i : Nat => (i : Int)) := by unfold Hid outL; rw [if_neg hr0, hh]
    have HH := Lib.hid hh
    clear hh
    go_enter Try.func49, Try.ntmps49
    go_wp2_with fail
    refine (cap_any _ _).mono ?_; rintro e w' ⟨rfl, rfl⟩; rw [HH.out]
    go_wp2
    go_loopw [3, 4, 12] (fun v _ i wr => ∃ k : Nat, k ≤ h + 1 ∧ i = .int .i64 k ∧ wr.ownsRow w.heap.size 3 1 v k (ints ((List.range k).map fun i : Nat => (i : Int))) ∧ Below w.heap.size w wr) (fun _ _ i _ => h + 1 - (intOf i).toNat)
    case atStart => exact ⟨0, Nat.zero_le _, rfl, World.ownsRow_nil _ _ _ _, Below.refl _ _⟩
    case round =>
      obtain ⟨k, hk, rfl, hown, hb⟩ := hrel
      have hsz := hb.size
      by_cases hlt : k < h + 1
      · have p1 : (k : Int) < (h : Int) + 1 := by omega
        have HM : Hid (ints ((List.range (k + 1)).map fun i : Nat => (i : Int)) = ints ((List.range k).map fun i : Nat => (i : Int)) ++ [.int .i64 k]) := by unfold Hid ints; rw [List.range_succ]; simp
        go_wp2_with (at_builtin; refine app1 wr #[.int .i64 k] rfl _ _ 22 rfl w.heap.size 3 (.int .i64 0) 1 8 Try.underlying22 info_int rfl (by decide) (by decide) _ _ _ rfl (by exact hown) rfl (by simp) rfl (by simp [Value.oneCell']) (by omega) hsz ?_; intro v' w1 hown' hg' hb')
        go_roundw
        case rel => exact ⟨k + 1, by omega, by go_num, by rw [HM.out]; exact hown', hb.trans hb'⟩
        case measure => simp [intOf]; omega
      · obtain rfl : k = h + 1 := by omega
        have p1 : ¬ ((h + 1 : Nat) : Int) < (h : Int) + 1 := by omega
        go_wp2
        go_ret
        exact ⟨_, rfl, by rw [HR.out]; simpa using hown, hb⟩

theorem kap_3 : kap 3 = 7 := by decide +kernel
theorem spl_22 : splP 2 2 = [(0, 1), (1, 0)] := by decide +kernel
theorem spl_32 : splP 3 2 = [(0, 1), (1, 0), (1, 1)] := by decide +kernel

/-- a written list of pairs in new memory is owned -/
theorem owns_lit (w : World) (l : List (Int × Int)) (us : Array Value) (hu : us.toList = cellsP l) (hl : l.length ≤ 16) : (w.alloc (.cells us 48)).ownsRow w.heap.size 48 2 (.slice (some ⟨w.heap.size, 0, none⟩) l.length l.length) l.length (cellsP l) := by
  rw [← hu]
  exact World.ownsRow_lit w us l.length (Nat.le_refl _) (by unfold maxLen; omega) (by rw [← Array.length_toList, hu, cellsP_len])

set_option maxHeartbeats 2000000 in
theorem awake21 (w : World) :
    Calls Try.prog 38 #[] w fun e w' => e = .returned (.bool true) ∧ Below w.heap.size w w' := by
  have H1 := Lib.hid kap_3
  have H2 := Lib.hid spl_22
  have H3 := Lib.hid spl_32
  go_enter Try.func38, Try.ntmps38
  go_wp2_with fail
  refine (cap_any 3 _).mono ?_
  rintro e w1 ⟨rfl, rfl⟩
  rw [H1.out]
  go_wp2_with fail
  refine (splits_any 2 2 _ (by omega)).mono ?_
  rintro e w2 ⟨v, rfl, hown, hb⟩
  rw [H2.out] at hown
  have HO := Lib.hid hown
  have HB := Lib.hid hb
  clear hown hb
  have HL := Lib.hid (owns_lit w2 [(0, 1), (1, 0)] #[.int .i64 0, .int .i64 1, .int .i64 1, .int .i64 0] rfl (by decide))
  go_wp2_with fail
  refine (rpSame_eq _ _ _ _ [(0, 1), (1, 0)] _ (HO.out.alloc _) HL.out (by decide)).mono ?_
  rintro e w3 ⟨rfl, hb3⟩
  have HB3 := Lib.hid ((HB.out.alloc HB.out.size _).trans (hb3.mono (by have := HB.out.size; simp; omega)))
  clear hb3 HO HL HB
  go_wp2_with fail
  refine (splits_any 3 2 _ (by omega)).mono ?_
  rintro e w4 ⟨v2, rfl, hown, hb⟩
  rw [H3.out] at hown
  have HO := Lib.hid hown
  have HB := Lib.hid (HB3.out.trans (hb.mono HB3.out.size))
  clear hown hb HB3
  have HL := Lib.hid (owns_lit w4 [(0, 1), (1, 0), (1, 1)] #[.int .i64 0, .int .i64 1, .int .i64 1, .int .i64 0, .int .i64 1, .int .i64 1] rfl (by decide))
  go_wp2_with fail
  refine (rpSame_eq _ _ _ _ [(0, 1), (1, 0), (1, 1)] _ (HO.out.alloc _) HL.out (by decide)).mono ?_
  rintro e w5 ⟨rfl, hb5⟩
  have HB5 := Lib.hid ((HB.out.alloc HB.out.size _).trans (hb5.mono (by have := HB.out.size; simp; omega)))
  clear hb5 HO HL HB
  go_wp2
  go_ret
  exact ⟨rfl, HB5.out⟩

end Go.Proofs.Ytbhmimegcnfjcaa
