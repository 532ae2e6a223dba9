/- Contracts of warderref02's small functions. -/
import Derived.Test.YthbbbccefjemmaaDoorRef01b
import Derived.Test.YthbbbccefjemmaaDoorTokPlain
namespace Go.Proofs.YthbbbccefjemmaaDoor
open Go.RowKit

set_option maxHeartbeats 400000 in
theorem rsmallB_any (c : Int) (w : World) : Calls Tryd.prog 33 #[.int .i64 c] w fun e w' => e = .returned (.bool (smallB c)) ∧ w = w' := by
  have H : Hid (smallB c = decide (97 ≤ c ∧ c ≤ 122)) := rfl
  rcases (show c < 97 ∨ (97 ≤ c ∧ c ≤ 122) ∨ 122 < c by omega) with h | ⟨h, h'⟩ | h
  all_goals
    go_enter Tryd.func33, Tryd.ntmps33
    go_wp2
    go_ret
    exact ⟨ret_bool (by rw [H.out]; simp; try omega), rfl⟩

set_option maxHeartbeats 400000 in
theorem rgreatB_any (c : Int) (w : World) : Calls Tryd.prog 34 #[.int .i64 c] w fun e w' => e = .returned (.bool (greatB c)) ∧ w = w' := by
  have H : Hid (greatB c = decide (65 ≤ c ∧ c ≤ 90)) := rfl
  rcases (show c < 65 ∨ (65 ≤ c ∧ c ≤ 90) ∨ 90 < c by omega) with h | ⟨h, h'⟩ | h
  all_goals
    go_enter Tryd.func34, Tryd.ntmps34
    go_wp2
    go_ret
    exact ⟨ret_bool (by rw [H.out]; simp; try omega), rfl⟩

set_option maxHeartbeats 400000 in
theorem rdigitB_any (c : Int) (w : World) : Calls Tryd.prog 36 #[.int .i64 c] w fun e w' => e = .returned (.bool (digitB c)) ∧ w = w' := by
  have H : Hid (digitB c = decide (48 ≤ c ∧ c ≤ 57)) := rfl
  rcases (show c < 48 ∨ (48 ≤ c ∧ c ≤ 57) ∨ 57 < c by omega) with h | ⟨h, h'⟩ | h
  all_goals
    go_enter Tryd.func36, Tryd.ntmps36
    go_wp2
    go_ret
    exact ⟨ret_bool (by rw [H.out]; simp; try omega), rfl⟩

/-- the reference's runes in memory -/
def RR (w : World) (v : Value) (L : List Rn) : Prop := ∃ B, w.ownsRow B 48 5 v L.length (rnFlat .i64 L)
theorem RR.keep {w w' : World} {v : Value} {L : List Rn} (h : RR w v L) (hb : Below w.heap.size w w') : RR w' v L := by
  obtain ⟨B, h⟩ := h; exact ⟨B, owns_below h hb⟩

set_option maxHeartbeats 400000 in
theorem rat_any {w : World} {v : Value} {L : List Rn} (h : RR w v L) (k : Int) (h0 : 0 ≤ k) (hk : k ≤ 4294967296) :
    Calls Tryd.prog 37 #[v, .int .i64 k] w fun e w' => e = .returned (.int .i64 (rAt L k.toNat)) ∧ w = w' := by
  obtain ⟨i, rfl⟩ := Int.eq_ofNat_of_zero_le h0
  rw [Int.toNat_natCast]
  obtain ⟨B, h⟩ := h
  by_cases hlt : i < L.length
  · obtain ⟨x, hx⟩ : ∃ x, L[i]? = some x := ⟨_, List.getElem?_eq_getElem hlt⟩
    have HA := Lib.hid (rAt_some hx)
    obtain ⟨g, cap, rfl, hg, hgs⟩ := owns_shape h (by omega)
    have c0 := (World.ownsRow.cellAt h (i * 5) (by omega)).trans (rnFlat_get .i64 _ i 0 x hx (by omega))
    simp only [rnCells, List.getElem?_cons_zero] at c0
    have hz : (i : Int) < (L.length : Int) := by omega
    clear h hx
    go_enter Tryd.func37, Tryd.ntmps37
    go_wp2
    go_ret
    exact ⟨by rw [HA.out]; rfl, rfl⟩
  · have HA := Lib.hid (rAt_none (L := L) (i := i) (by omega))
    obtain ⟨ad, cap, rfl⟩ := owns_len h
    have hz : ¬ (i : Int) < (L.length : Int) := by omega
    clear h
    go_enter Tryd.func37, Tryd.ntmps37
    go_wp2
    go_ret
    exact ⟨by rw [HA.out]; rfl, rfl⟩

theorem innerB_cases (c : Int) : (innerB c = true ∧ smallB c = true) ∨ (innerB c = true ∧ smallB c = false ∧ greatB c = true) ∨ (innerB c = true ∧ smallB c = false ∧ greatB c = false ∧ digitB c = true) ∨
    (smallB c = false ∧ greatB c = false ∧ digitB c = false ∧ innerB c = (c == 95)) := by
  unfold innerB letterB
  cases smallB c <;> cases greatB c <;> cases digitB c <;> simp <;> rfl

set_option maxHeartbeats 2000000 in
theorem rword_any {w : World} {v : Value} {L : List Rn} (h : RR w v L) (i : Nat) (hL : L.length ≤ 70000) (hi : i ≤ L.length) :
    Calls Tryd.prog 35 #[v, .int .i64 i] w fun e w' => e = .returned (.int .i64 (rowE innerB L i : Nat)) ∧ w = w' := by
  have HR := Lib.hid h; clear h
  go_enter Tryd.func35, Tryd.ntmps35
  go_wp2
  go_loop [1] (fun m => ∃ k : Nat, k ≤ L.length ∧ m = .int .i64 k ∧ Hid (rowE innerB L i = rowE innerB L k)) (fun m => L.length - (intOf m).toNat)
  case atStart => exact ⟨i, hi, rfl, rfl⟩
  case round =>
    obtain ⟨k, hk, rfl, HE⟩ := hrel
    have hgo : innerB (rAt L k) = true → k < L.length := by
      intro hq
      by_cases hc : k < L.length
      · exact hc
      · rw [rAt_none (by omega)] at hq; exact absurd hq (by decide)
    have hyes : innerB (rAt L k) = true → rowE innerB L i = rowE innerB L (k + 1) := fun hq => by rw [HE.out, rowE_yes _ (by decide) _ _ hq]
    have hno : innerB (rAt L k) = false → rowE innerB L i = k := fun hq => by rw [HE.out, rowE_no _ _ _ hq]
    obtain ⟨c, hc⟩ : ∃ c, c = rAt L k := ⟨_, rfl⟩
    rw [← hc] at hgo hyes hno
    have HC := Lib.hid hc; clear hc
    rcases innerB_cases c with ⟨h0, h1⟩ | ⟨h0, h1, h2⟩ | ⟨h0, h1, h2, h3⟩ | ⟨h1, h2, h3, h0⟩
    · have hlt := hgo h0
      have HY := Lib.hid (hyes h0)
      clear hgo hyes hno h0
      go_wp2_with (first | (go_at_call 37; refine (rat_any HR.out _ (by omega) (by omega)).mono ?_; rintro e w' ⟨rfl, rfl⟩; rw [Int.toNat_natCast, ← HC.out]) | (go_at_call 33; refine (rsmallB_any _ _).mono ?_; rintro e w' ⟨rfl, rfl⟩))
      go_round
      case rel => exact ⟨k + 1, by omega, by go_num, HY⟩
      case measure => simp [intOf]; omega
    · have hlt := hgo h0
      have HY := Lib.hid (hyes h0)
      clear hgo hyes hno h0
      go_wp2_with (first | (go_at_call 37; refine (rat_any HR.out _ (by omega) (by omega)).mono ?_; rintro e w' ⟨rfl, rfl⟩; rw [Int.toNat_natCast, ← HC.out]) | (go_at_call 33; refine (rsmallB_any _ _).mono ?_; rintro e w' ⟨rfl, rfl⟩) | (go_at_call 34; refine (rgreatB_any _ _).mono ?_; rintro e w' ⟨rfl, rfl⟩))
      go_round
      case rel => exact ⟨k + 1, by omega, by go_num, HY⟩
      case measure => simp [intOf]; omega
    · have hlt := hgo h0
      have HY := Lib.hid (hyes h0)
      clear hgo hyes hno h0
      go_wp2_with (first | (go_at_call 37; refine (rat_any HR.out _ (by omega) (by omega)).mono ?_; rintro e w' ⟨rfl, rfl⟩; rw [Int.toNat_natCast, ← HC.out]) | (go_at_call 33; refine (rsmallB_any _ _).mono ?_; rintro e w' ⟨rfl, rfl⟩) | (go_at_call 34; refine (rgreatB_any _ _).mono ?_; rintro e w' ⟨rfl, rfl⟩) | (go_at_call 36; refine (rdigitB_any _ _).mono ?_; rintro e w' ⟨rfl, rfl⟩))
      go_round
      case rel => exact ⟨k + 1, by omega, by go_num, HY⟩
      case measure => simp [intOf]; omega
    · cases h5 : (c == 95)
      · rw [h5] at h0
        have HN := Lib.hid (hno h0)
        clear hgo hyes hno h0
        go_wp2_with (first | (go_at_call 37; refine (rat_any HR.out _ (by omega) (by omega)).mono ?_; rintro e w' ⟨rfl, rfl⟩; rw [Int.toNat_natCast, ← HC.out]) | (go_at_call 33; refine (rsmallB_any _ _).mono ?_; rintro e w' ⟨rfl, rfl⟩) | (go_at_call 34; refine (rgreatB_any _ _).mono ?_; rintro e w' ⟨rfl, rfl⟩) | (go_at_call 36; refine (rdigitB_any _ _).mono ?_; rintro e w' ⟨rfl, rfl⟩))
        go_ret
        exact ⟨ret_int (by rw [HN.out]), rfl⟩
      · rw [h5] at h0
        have hlt := hgo h0
        have HY := Lib.hid (hyes h0)
        clear hgo hyes hno h0
        go_wp2_with (first | (go_at_call 37; refine (rat_any HR.out _ (by omega) (by omega)).mono ?_; rintro e w' ⟨rfl, rfl⟩; rw [Int.toNat_natCast, ← HC.out]) | (go_at_call 33; refine (rsmallB_any _ _).mono ?_; rintro e w' ⟨rfl, rfl⟩) | (go_at_call 34; refine (rgreatB_any _ _).mono ?_; rintro e w' ⟨rfl, rfl⟩) | (go_at_call 36; refine (rdigitB_any _ _).mono ?_; rintro e w' ⟨rfl, rfl⟩))
        go_round
        case rel => exact ⟨k + 1, by omega, by go_num, HY⟩
        case measure => simp [intOf]; omega

end Go.Proofs.YthbbbccefjemmaaDoor
