/- Contracts of Same of warderref21, Outer of package halve, awake of warderlaw21. -/
import Derived.Test.YtjmggphnngffjaaHalveRef
import Derived.Test.YtjmggphnngffjaaBitsN
namespace Go.Proofs.Ytjmggphnngffjaa
open Go.RowKit
attribute [local go_sem] eq_pair

theorem neq_pair (w : World) (a b c d : Int) : (Op.equalIn 10000 36 (.agg #[.int .i64 a, .int .i64 b]) (.agg #[.int .i64 c, .int .i64 d])).run Try.prog w = .ok (a == c && b == d) w := eq_pair a b c d w

/-- how far a number may be put -/
def outL (r : Int) : List Int := if r < 1 then [] else (List.range (kap (r - 1) + 1)).map fun i : Nat => (i : Int)

set_option maxHeartbeats 2000000 in
theorem outer_any (r : Int) (w : World) (hr2 : r ≤ 9223372036854775807) :
    Calls Try.prog 59 #[.int .i64 r] w fun e w' => ∃ v, e = .returned v ∧ w'.ownsRow w.heap.size 3 1 v (outL r).length (ints (outL r)) ∧ Below w.heap.size w w' := by
  by_cases hr0 : r < 1
  · have H : Hid (outL r = []) := by unfold Hid outL; rw [if_pos hr0]
    go_enter Try.func59, Try.ntmps59
    go_wp2
    go_ret
    exact ⟨_, rfl, by rw [H.out]; exact World.ownsRow_nil _ _ _ _, Below.refl _ w⟩
  · obtain ⟨h, hh⟩ : ∃ h, kap (r - 1) = h := ⟨_, rfl⟩
    have hle := kap_le (r - 1)
    rw [hh] at hle
    have HR : Hid (outL r = (List.range (h + 1)).map fun i : Nat => (i : Int)) := by unfold Hid outL; rw [if_neg hr0, hh]
    have HH := Lib.hid hh
    clear hh
    go_enter Try.func59, Try.ntmps59
    go_wp2_with fail
    refine (cap_any _ _).mono ?_; rintro e w' ⟨rfl, rfl⟩; rw [HH.out]
    go_wp2
    go_loopw [3, 4, 12] (fun v _ i wr => ∃ k : Nat, k ≤ h + 1 ∧ i = .int .i64 k ∧ wr.ownsRow w.heap.size 3 1 v k (ints ((List.range k).map fun i : Nat => (i : Int))) ∧ Below w.heap.size w wr) (fun _ _ i _ => h + 1 - (intOf i).toNat)
    case atStart => exact ⟨0, Nat.zero_le _, rfl, World.ownsRow_nil _ _ _ _, Below.refl _ _⟩
    case round =>
      obtain ⟨k, hk, rfl, hown, hb⟩ := hrel
      have hsz := hb.size
      by_cases hlt : k < h + 1
      · have p1 : (k : Int) < (h : Int) + 1 := by omega
        have HM : Hid (ints ((List.range (k + 1)).map fun i : Nat => (i : Int)) = ints ((List.range k).map fun i : Nat => (i : Int)) ++ [.int .i64 k]) := by unfold Hid ints; rw [List.range_succ]; simp
        go_wp2_with (at_builtin; refine app1 wr #[.int .i64 k] rfl _ _ 39 rfl w.heap.size 3 (.int .i64 0) 1 8 Try.underlying39 info_int rfl (by decide) (by decide) _ _ _ rfl (by exact hown) rfl (by simp) rfl (by simp [Value.oneCell']) (by omega) hsz ?_; intro v' w1 hown' hg' hb')
        go_roundw
        case rel => exact ⟨k + 1, by omega, by go_num, by rw [HM.out]; exact hown', hb.trans hb'⟩
        case measure => simp [intOf]; omega
      · obtain rfl : k = h + 1 := by omega
        have p1 : ¬ ((h + 1 : Nat) : Int) < (h : Int) + 1 := by omega
        go_wp2
        go_ret
        exact ⟨_, rfl, by rw [HR.out]; simpa using hown, hb⟩

theorem kap_3 : kap 3 = 7 := by decide +kernel
theorem spl_22 : splP 2 2 = [(0, 1), (1, 0)] := by decide +kernel
theorem spl_32 : splP 3 2 = [(0, 1), (1, 0), (1, 1)] := by decide +kernel

/-- a written list of pairs in new memory is owned -/
theorem owns_lit (w : World) (l : List (Int × Int)) (us : Array Value) (hu : us.toList = cellsP l) (hl : l.length ≤ 16) : (w.alloc (.cells us 36)).ownsRow w.heap.size 36 2 (.slice (some ⟨w.heap.size, 0, none⟩) l.length l.length) l.length (cellsP l) := by
  rw [← hu]
  exact World.ownsRow_lit w us l.length (Nat.le_refl _) (by unfold maxLen; omega) (by rw [← Array.length_toList, hu, cellsP_len])

end Go.Proofs.Ytjmggphnngffjaa
