/- Contracts of List of bits and warderref14, and of In and Sum of warderref14. -/
import Derived.Test.YtjmggphnngffjaaBits
namespace Go.Proofs.Ytjmggphnngffjaa
open Go.RowKit

theorem info_int : (Try.prog.info? 3).map (fun i => (i.zero, i.size, i.bytes)) = some (some (.int .i64 0), 1, 8) := by kernel_rfl
theorem info_bool : (Try.prog.info? 4).map (fun i => (i.zero, i.size, i.bytes)) = some (some (.bool false), 1, 1) := by kernel_rfl

/-- what of the first k numbers is in a set -/
def listZ (s : Int) (k : Nat) : List Int := ((List.range k).filter (hasN s)).map fun j : Nat => (j : Int)

theorem listZ_len (s : Int) (k : Nat) : (listZ s k).length ≤ k := by
  unfold listZ; rw [List.length_map]; have := List.length_filter_le (hasN s) (List.range k); simpa using this
theorem listZ_hit (s : Int) (k : Nat) (hk : k < 31) (h : hasB s k = true) : listZ s (k + 1) = listZ s k ++ [(k : Int)] := by
  have : hasN s k = true := by unfold hasB at h; rw [if_pos (by omega)] at h; simpa using h
  unfold listZ; rw [List.range_succ, List.filter_append]; simp [this]
theorem listZ_miss (s : Int) (k : Nat) (hk : k < 31) (h : hasB s k = false) : listZ s (k + 1) = listZ s k := by
  have : hasN s k = false := by unfold hasB at h; rw [if_pos (by omega)] at h; simpa using h
  unfold listZ; rw [List.range_succ, List.filter_append]; simp [this]

def ints (l : List Int) : List Value := l.map (Value.int .i64)
theorem ints_len (l : List Int) : (ints l).length = l.length := by simp [ints]

def bools (l : List Bool) : List Value := l.map Value.bool
theorem bools_len (l : List Bool) : (bools l).length = l.length := by simp [bools]
def truths (s : Int) (k : Nat) : List Bool := (List.range k).map (hasN s)
theorem truths_len (s : Int) (k : Nat) : (truths s k).length = k := by simp [truths]
theorem truths_succ (s : Int) (k : Nat) (hk : k < 31) : truths s (k + 1) = truths s k ++ [hasB s k] := by
  have : hasB s k = hasN s k := by unfold hasB; rw [if_pos (by omega)]; simp
  rw [this]; simp [truths, List.range_succ]

set_option maxHeartbeats 1000000 in
theorem in_any (s : Int) (w : World) (hs0 : -9223372036854775808 ≤ s) (hs1 : s ≤ 9223372036854775807) :
    Calls Try.prog 62 #[.int .i64 s] w fun e w' => ∃ v, e = .returned v ∧ w'.ownsRow w.heap.size 4 1 v 31 (bools (truths s 31)) ∧ Below w.heap.size w w' := by
  go_enter Try.func62, Try.ntmps62
  go_wp2
  go_loopw [3, 4] (fun v i wr => ∃ k : Nat, k ≤ 31 ∧ i = .int .i64 k ∧ wr.ownsRow w.heap.size 4 1 v k (bools (truths s k)) ∧ Below w.heap.size w wr) (fun _ i _ => 31 - (intOf i).toNat)
  case atStart => exact ⟨0, Nat.zero_le _, rfl, World.ownsRow_nil _ _ _ _, Below.refl _ _⟩
  case round =>
    obtain ⟨k, hk, rfl, hown, hb⟩ := hrel
    have hsz := hb.size
    by_cases hlt : k < 31
    · have HM := Lib.hid (truths_succ s k hlt)
      go_wp2_with (first | (go_at_call 44; refine (rhas_any _ _ _ hs0 hs1).mono ?_; rintro e w' ⟨rfl, rfl⟩) | (at_builtin; refine app1 wr #[.bool (hasB s k)] rfl _ _ 37 rfl w.heap.size 4 (.bool false) 1 1 Try.underlying37 info_bool rfl (by decide) (by decide) _ _ _ rfl (by exact hown) rfl (by simp) rfl (by simp [Value.oneCell']) (by omega) hsz ?_; intro v' w1 hown' hg' hb'))
      go_roundw
      case rel => exact ⟨k + 1, by omega, by go_num, by rw [HM.out]; simpa [bools] using hown', hb.trans hb'⟩
      case measure => simp [intOf]; omega
    · obtain rfl : k = 31 := by omega
      go_wp2
      go_ret
      exact ⟨_, rfl, hown, hb⟩

theorem sum_step (l : List Bool) (k : Nat) (hk : k < l.length) : sumB (l.take (k + 1)) = sumB (l.take k) + (if l.getD k false then 2 ^ k else 0) := by
  rw [List.take_succ_eq_append_getElem hk, sumB_snoc]
  simp [hk, Nat.min_eq_left (Nat.le_of_lt hk)]

theorem pow31 (k : Nat) (hk : k ≤ 31) : 1 ≤ 2 ^ k ∧ 2 ^ k ≤ 2147483648 := by
  constructor
  · exact Nat.one_le_two_pow
  · have : (2 : Nat) ^ k ≤ 2 ^ 31 := Nat.pow_le_pow_right (by omega) hk
    simpa using this

set_option maxHeartbeats 1000000 in
theorem sum_any (v : Value) (l : List Bool) (w : World) (hl : l.length = 31) (hv : Reads w v (bools l)) :
    Calls Try.prog 63 #[v] w fun e w' => e = .returned (.int .i64 (sumB l : Nat)) ∧ w = w' := by
  rcases hv with ⟨ad, cap, rfl, h0⟩ | ⟨b, off, cap, rfl, _, _, hc⟩
  · have := bools_len l; rw [h0] at this; simp at this; omega
  · rw [bools_len, hl]
    have HC := Lib.hid hc; clear hc
    have HL := Lib.hid hl; clear hl
    go_enter Try.func63, Try.ntmps63
    go_wp2
    go_loop [3, 4, 5] (fun s p i => ∃ (k a q : Nat), k ≤ 31 ∧ i = .int .i64 k ∧ s = .int .i64 a ∧ p = .int .i64 q ∧ a < q ∧ q ≤ 2147483648 ∧ Hid (a = sumB (l.take k)) ∧ Hid (q = 2 ^ k)) (fun _ _ i => 31 - (intOf i).toNat)
    case atStart => exact ⟨0, 0, 1, Nat.zero_le _, rfl, rfl, rfl, by omega, by omega, by unfold Hid; simp [sumB], rfl⟩
    case round =>
      obtain ⟨k, a, q, hk, rfl, rfl, rfl, haq, hq, HA, HQ⟩ := hrel
      by_cases hlt : k < 31
      · have hlk : k < l.length := by have := HL.out; omega
        have HS : Hid (sumB (l.take (k + 1)) = a + (if l.getD k false then q else 0)) := by unfold Hid; rw [sum_step l k hlk, HA.out, HQ.out]
        have HQ' : Hid (2 * q = 2 ^ (k + 1)) := by unfold Hid; rw [HQ.out, Nat.pow_succ]; omega
        have hq' : 2 * q ≤ 2147483648 := by have := pow31 (k + 1) (by omega); rw [← HQ'.out] at this; exact this.2
        have hcell : w.cell? ⟨b, off + k, none⟩ = some (.bool (l.getD k false)) := HC.out k _ (by simp [bools, List.getElem?_eq_getElem hlk, List.getD_eq_getElem?_getD])
        clear hlk
        cases hb : l.getD k false
        all_goals
          rw [hb] at hcell HS
          clear hb
          go_wp2
          go_round
          case rel => exact ⟨k + 1, _, 2 * q, by omega, by go_num, rfl, int_eq (by omega), by first | omega | (simp; omega), hq', by unfold Hid; rw [HS.out]; simp, HQ'⟩
          case measure => simp [intOf]; omega
      · obtain rfl : k = 31 := by omega
        have HE : Hid (a = sumB l) := by unfold Hid; rw [HA.out, List.take_of_length_le (by have := HL.out; omega)]
        go_wp2
        go_ret
        exact ⟨ret_int (by rw [HE.out]), rfl⟩

end Go.Proofs.Ytjmggphnngffjaa
