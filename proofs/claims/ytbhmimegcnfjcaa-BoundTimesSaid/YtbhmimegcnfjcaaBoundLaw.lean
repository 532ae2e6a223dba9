/- The walks of Nodes at the empty model, of awake and of BoundTimes of warderlaw41. -/
import Derived.Test.YtbhmimegcnfjcaaBound
import Derived.Deep.RegionHeld3
namespace Go.Proofs.Ytbhmimegcnfjcaa
open Go.RowKit

def zeroModel : Value := .agg #[.slice none 0 0, .slice none 0 0, .slice none 0 0, .slice none 0 0, .slice none 0 0, .slice none 0 0, .slice none 0 0, .slice none 0 0, .slice none 0 0, .slice none 0 0]

set_option maxHeartbeats 400000 in
theorem left0 (w : World) :
    Calls Try.prog 78 #[zeroModel, .slice none 0 0] w fun e w' => e = .returned (.int .i64 0) ∧ Below w.heap.size w w' := by
  unfold zeroModel
  go_enter Try.func78, Try.ntmps78
  go_wp2
  refine wp_loop_rounds 1 ?_
  rw [rounds_succ]
  go_wp2
  go_ret
  exact ⟨rfl, (Below.refl _ _).alloc (Nat.le_refl _) _⟩

set_option maxHeartbeats 400000 in
theorem cap0 (w : World) :
    Calls Try.prog 43 #[.int .i64 0] w fun e w' => e = .returned (.int .i64 0) ∧ w = w' := by
  go_enter Try.func43, Try.ntmps43
  go_wp2
  go_ret
  exact ⟨rfl, rfl⟩

set_option maxHeartbeats 4000000 in
theorem nodes0 (w : World) :
    Calls Try.prog 66 #[zeroModel, .int .i64 0] w fun e w' => e = .returned (.int .i64 1) ∧ Below w.heap.size w w' := by
  unfold zeroModel
  go_enter Try.func66, Try.ntmps66
  go_wp2_with fail
  refine (power_any 2 0 _ (by omega) (by omega) (by omega)).mono ?_
  rintro e w' ⟨rfl, rfl⟩
  rw [show powZ 2 0 = 1 from rfl]
  go_wp2_with fail
  refine (power_any 2 0 _ (by omega) (by omega) (by omega)).mono ?_
  rintro e w' ⟨rfl, rfl⟩
  rw [show powZ 2 0 = 1 from rfl]
  go_wp2_with fail
  refine (times_any 1 1 _ (by omega) (by omega)).mono ?_
  rintro e w' ⟨rfl, rfl⟩
  rw [show timesZ 1 1 = 1 from rfl]
  go_wp2_with fail
  refine (times_any 0 0 _ (by omega) (by omega)).mono ?_
  rintro e w' ⟨rfl, rfl⟩
  rw [show timesZ 0 0 = 0 from rfl]
  go_wp2_with fail
  refine (power_any 2 0 _ (by omega) (by omega) (by omega)).mono ?_
  rintro e w' ⟨rfl, rfl⟩
  rw [show powZ 2 0 = 1 from rfl]
  go_wp2_with fail
  refine (times_any 1 1 _ (by omega) (by omega)).mono ?_
  rintro e w' ⟨rfl, rfl⟩
  rw [show timesZ 1 1 = 1 from rfl]
  go_wp2_with fail
  refine wp_loop_rounds 1 ?_
  rw [rounds_succ]
  go_wp2_with fail
  refine wp_loop_rounds 1 ?_
  rw [rounds_succ]
  go_wp2_with fail
  have hB1 : Below w.heap.size w (w.alloc (Obj.cells #[Value.slice none 0 0, Value.slice none 0 0, Value.slice none 0 0, Value.slice none 0 0, Value.slice none 0 0, Value.slice none 0 0, Value.slice none 0 0, Value.slice none 0 0, Value.slice none 0 0, Value.slice none 0 0] 81)) := (Below.refl _ _).alloc (Nat.le_refl _) _
  have hsz : (w.alloc (Obj.cells #[Value.slice none 0 0, Value.slice none 0 0, Value.slice none 0 0, Value.slice none 0 0, Value.slice none 0 0, Value.slice none 0 0, Value.slice none 0 0, Value.slice none 0 0, Value.slice none 0 0, Value.slice none 0 0] 81)).heap.size = w.heap.size + 1 := by simp
  have hc := fun j (h : j < 10) => (World.cell?_alloc_at (w := w) #[Value.slice none 0 0, Value.slice none 0 0, Value.slice none 0 0, Value.slice none 0 0, Value.slice none 0 0, Value.slice none 0 0, Value.slice none 0 0, Value.slice none 0 0, Value.slice none 0 0, Value.slice none 0 0] 81 w.heap.size j rfl).trans (show _ = some (Value.slice none 0 0) by
    match j, h with
    | 0, _ | 1, _ | 2, _ | 3, _ | 4, _ | 5, _ | 6, _ | 7, _ | 8, _ | 9, _ => rfl)
  generalize (w.alloc (Obj.cells #[Value.slice none 0 0, Value.slice none 0 0, Value.slice none 0 0, Value.slice none 0 0, Value.slice none 0 0, Value.slice none 0 0, Value.slice none 0 0, Value.slice none 0 0, Value.slice none 0 0, Value.slice none 0 0] 81)) = W1 at *
  have c0 := hc 0 (by omega)
  have c1 := hc 1 (by omega)
  have c2 := hc 2 (by omega)
  have c3 := hc 3 (by omega)
  have c4 := hc 4 (by omega)
  have c5 := hc 5 (by omega)
  have c6 := hc 6 (by omega)
  have c7 := hc 7 (by omega)
  have c8 := hc 8 (by omega)
  have c9 := hc 9 (by omega)
  clear hc
  have hlt : w.heap.size < W1.heap.size := by omega
  have HB1 := Lib.hid hB1; clear hB1 hsz
  generalize hgB : w.heap.size = B at *
  have HGB := Lib.hid hgB; clear hgB
  go_region_held3 (fun w' => w'.cell? ⟨B, 0, none⟩ = some (.slice none 0 0) ∧ w'.cell? ⟨B, 1, none⟩ = some (.slice none 0 0) ∧ w'.cell? ⟨B, 2, none⟩ = some (.slice none 0 0) ∧ w'.cell? ⟨B, 3, none⟩ = some (.slice none 0 0) ∧ w'.cell? ⟨B, 4, none⟩ = some (.slice none 0 0) ∧ w'.cell? ⟨B, 5, none⟩ = some (.slice none 0 0) ∧ w'.cell? ⟨B, 6, none⟩ = some (.slice none 0 0) ∧ w'.cell? ⟨B, 7, none⟩ = some (.slice none 0 0) ∧ w'.cell? ⟨B, 8, none⟩ = some (.slice none 0 0) ∧ w'.cell? ⟨B, 9, none⟩ = some (.slice none 0 0))
    (first | go_keep | (go_split_ands; refine ⟨?_, ?_, ?_, ?_, ?_, ?_, ?_, ?_, ?_, ?_⟩ <;> (apply e0; assumption)))
    (first
      | (go_at_call 78; refine (left0 _).mono ?_; rintro e w2 ⟨rfl, hb2⟩; have e0 := fun j x (h : World.cell? _ _ = some x) => (hb2.cell (p := ⟨B, j, none⟩) (World.block_lt_of_cell? _ _ h)).trans h)
      | (go_at_call 43; refine (cap0 _).mono ?_; rintro e w' ⟨rfl, rfl⟩)
      | (go_at_call 35; refine (power_any 1 0 _ (by omega) (by omega) (by omega)).mono ?_; rintro e w' ⟨rfl, rfl⟩; rw [show powZ 1 0 = 1 from rfl])
      | (go_at_call 33; refine (times_any 1 1 _ (by omega) (by omega)).mono ?_; rintro e w' ⟨rfl, rfl⟩; rw [show timesZ 1 1 = 1 from rfl]))
  go_wp2
  go_ret
  exact ⟨rfl, by rw [HGB.out]; exact (below_drewN HB1.out 1).trans (hb2.mono (Nat.le_of_lt hlt))⟩

set_option maxHeartbeats 1000000 in
theorem awake41 (w : World) :
    Calls Try.prog 37 #[] w fun e w' => e = .returned (.bool true) ∧ Below w.heap.size w w' := by
  go_enter Try.func37, Try.ntmps37
  go_wp2_with fail
  refine (nodes0 _).mono ?_
  rintro e w1 ⟨rfl, hb1⟩
  go_wp2_with fail
  refine (power_any 2 3 _ (by omega) (by omega) (by omega)).mono ?_
  rintro e w' ⟨rfl, rfl⟩
  rw [show powZ 2 3 = 8 from rfl]
  go_wp2
  go_ret
  exact ⟨rfl, hb1⟩

set_option maxHeartbeats 400000 in
theorem power_low (a n : Int) (w : World) (h : n ≤ 0) :
    Calls Try.prog 35 #[.int .i64 a, .int .i64 n] w fun e w' => e = .returned (.int .i64 1) ∧ w = w' := by
  go_enter Try.func35, Try.ntmps35
  go_wp2_with fail
  refine wp_loop_rounds 1 ?_
  rw [rounds_succ]
  go_wp2_with fail
  go_ret
  exact ⟨rfl, rfl⟩

set_option maxHeartbeats 400000 in
theorem rpower_low (a n : Int) (w : World) (h : n ≤ 0) :
    Calls Try.prog 36 #[.int .i64 a, .int .i64 n] w fun e w' => e = .returned (.int .i64 1) ∧ w = w' := by
  go_enter Try.func36, Try.ntmps36
  go_wp2_with fail
  refine wp_loop_rounds 1 ?_
  rw [rounds_succ]
  go_wp2_with fail
  go_ret
  exact ⟨rfl, rfl⟩

set_option maxHeartbeats 4000000 in
theorem boundTimes_any (a b n : Int) (w : World) (ha0 : -9223372036854775808 ≤ a) (ha1 : a ≤ 9223372036854775807) (hb0 : -9223372036854775808 ≤ b) (hb1 : b ≤ 9223372036854775807) :
    Calls Try.prog 7 #[.int .i64 a, .int .i64 b, .int .i64 n] w fun e w' => e = .returned (.bool true) ∧ Below w.heap.size w w' := by
  have HC := Lib.hid (times_comm a b)
  have HP : Hid (powZ a 1 = timesZ 1 a) := rfl
  by_cases h90 : n ≤ 90
  · by_cases h0 : n ≤ 0
    · go_enter Try.func7, Try.ntmps7
      go_wp2_with fail
      refine (times_any a b _ hb0 hb1).mono ?_
      rintro e w' ⟨rfl, rfl⟩
      go_wp2_with fail
      refine (rtimes_any a b _ ha1 hb1).mono ?_
      rintro e w' ⟨rfl, rfl⟩
      go_wp2_with fail
      refine (power_low a n _ h0).mono ?_
      rintro e w' ⟨rfl, rfl⟩
      go_wp2_with fail
      refine (rpower_low a n _ h0).mono ?_
      rintro e w' ⟨rfl, rfl⟩
      go_wp2_with fail
      refine (times_any b a _ ha0 ha1).mono ?_
      rintro e w' ⟨rfl, rfl⟩
      rw [HC.out]
      go_wp2_with fail
      refine (power_any a 1 _ ha0 ha1 (by omega)).mono ?_
      rintro e w' ⟨rfl, rfl⟩
      rw [HP.out]
      go_wp2_with fail
      refine (rtimes_any 1 a _ (by omega) ha1).mono ?_
      rintro e w' ⟨rfl, rfl⟩
      go_wp2_with fail
      refine (awake41 _).mono ?_
      rintro e w1 ⟨rfl, hb⟩
      go_wp2
      go_ret
      exact ⟨rfl, hb⟩
    · obtain ⟨N, rfl⟩ := Int.eq_ofNat_of_zero_le (show 0 ≤ n by omega)
      clear h0
      go_enter Try.func7, Try.ntmps7
      go_wp2_with fail
      refine (times_any a b _ hb0 hb1).mono ?_
      rintro e w' ⟨rfl, rfl⟩
      go_wp2_with fail
      refine (rtimes_any a b _ ha1 hb1).mono ?_
      rintro e w' ⟨rfl, rfl⟩
      go_wp2_with fail
      refine (power_any a N _ ha0 ha1 (by omega)).mono ?_
      rintro e w' ⟨rfl, rfl⟩
      go_wp2_with fail
      refine (rpower_any a N _ ha0 ha1 (by omega)).mono ?_
      rintro e w' ⟨rfl, rfl⟩
      go_wp2_with fail
      refine (times_any b a _ ha0 ha1).mono ?_
      rintro e w' ⟨rfl, rfl⟩
      rw [HC.out]
      go_wp2_with fail
      refine (power_any a 1 _ ha0 ha1 (by omega)).mono ?_
      rintro e w' ⟨rfl, rfl⟩
      rw [HP.out]
      go_wp2_with fail
      refine (rtimes_any 1 a _ (by omega) ha1).mono ?_
      rintro e w' ⟨rfl, rfl⟩
      go_wp2_with fail
      refine (awake41 _).mono ?_
      rintro e w1 ⟨rfl, hb⟩
      go_wp2
      go_ret
      exact ⟨rfl, hb⟩
  · go_enter Try.func7, Try.ntmps7
    go_wp2_with fail
    refine (times_any a b _ hb0 hb1).mono ?_
    rintro e w' ⟨rfl, rfl⟩
    go_wp2_with fail
    refine (rtimes_any a b _ ha1 hb1).mono ?_
    rintro e w' ⟨rfl, rfl⟩
    go_wp2_with fail
    refine (times_any b a _ ha0 ha1).mono ?_
    rintro e w' ⟨rfl, rfl⟩
    rw [HC.out]
    go_wp2_with fail
    refine (power_any a 1 _ ha0 ha1 (by omega)).mono ?_
    rintro e w' ⟨rfl, rfl⟩
    rw [HP.out]
    go_wp2_with fail
    refine (rtimes_any 1 a _ (by omega) ha1).mono ?_
    rintro e w' ⟨rfl, rfl⟩
    go_wp2_with fail
    refine (awake41 _).mono ?_
    rintro e w1 ⟨rfl, hb⟩
    go_wp2
    go_ret
    exact ⟨rfl, hb⟩

end Go.Proofs.Ytbhmimegcnfjcaa
