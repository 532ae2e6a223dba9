/- Contracts of warderref04's Arity, Begin, Check and Kids, for whatever list. -/
import Derived.Test.YthhjepgcbfmfeaaDoorShowPlain
import Derived.Test.YthhjepgcbfmfeaaDoorItArg
import Derived.Test.YthhjepgcbfmfeaaDoorStructs
namespace Go.Proofs.YthhjepgcbfmfeaaDoor
open Go.RowKit

set_option maxRecDepth 100000 in
set_option maxHeartbeats 4000000 in
theorem rarity_any (w : World) (op : Int) :
    Calls Tryd.prog 39 #[.int .i64 op] w fun e w' => e = .returned (.int .i64 (arN op)) ∧ w' = w := by
  rcases (show op < 1 ∨ (1 ≤ op ∧ op ≤ 14) ∨ op = 15 ∨ op = 16 ∨ op = 17 ∨ op = 18 ∨ (19 ≤ op ∧ op ≤ 24) ∨ op = 25 ∨ op = 26 ∨ 26 < op by omega) with h | h | rfl | rfl | rfl | rfl | h | rfl | rfl | h
  · have H : Hid (arN op = -1) := by unfold Hid arN; rw [if_neg (by omega), if_neg (by omega), if_neg (by omega)]
    rw [H.out]
    clear H
    have d0 : decide ((1 : Int) ≤ op) = false := decide_eq_false (by omega)
    have d1 : decide (op ≤ (1 : Int)) = true := decide_eq_true (by omega)
    have d2 : (op == 1) = false := beq_eq_false_iff_ne.2 (by omega)
    have d3 : decide ((14 : Int) ≤ op) = false := decide_eq_false (by omega)
    have d4 : decide (op ≤ (14 : Int)) = true := decide_eq_true (by omega)
    have d5 : (op == 14) = false := beq_eq_false_iff_ne.2 (by omega)
    have d6 : decide ((15 : Int) ≤ op) = false := decide_eq_false (by omega)
    have d7 : decide (op ≤ (15 : Int)) = true := decide_eq_true (by omega)
    have d8 : (op == 15) = false := beq_eq_false_iff_ne.2 (by omega)
    have d9 : decide ((16 : Int) ≤ op) = false := decide_eq_false (by omega)
    have d10 : decide (op ≤ (16 : Int)) = true := decide_eq_true (by omega)
    have d11 : (op == 16) = false := beq_eq_false_iff_ne.2 (by omega)
    have d12 : decide ((17 : Int) ≤ op) = false := decide_eq_false (by omega)
    have d13 : decide (op ≤ (17 : Int)) = true := decide_eq_true (by omega)
    have d14 : (op == 17) = false := beq_eq_false_iff_ne.2 (by omega)
    have d15 : decide ((18 : Int) ≤ op) = false := decide_eq_false (by omega)
    have d16 : decide (op ≤ (18 : Int)) = true := decide_eq_true (by omega)
    have d17 : (op == 18) = false := beq_eq_false_iff_ne.2 (by omega)
    have d18 : decide ((19 : Int) ≤ op) = false := decide_eq_false (by omega)
    have d19 : decide (op ≤ (19 : Int)) = true := decide_eq_true (by omega)
    have d20 : (op == 19) = false := beq_eq_false_iff_ne.2 (by omega)
    have d21 : decide ((24 : Int) ≤ op) = false := decide_eq_false (by omega)
    have d22 : decide (op ≤ (24 : Int)) = true := decide_eq_true (by omega)
    have d23 : (op == 24) = false := beq_eq_false_iff_ne.2 (by omega)
    have d24 : decide ((25 : Int) ≤ op) = false := decide_eq_false (by omega)
    have d25 : decide (op ≤ (25 : Int)) = true := decide_eq_true (by omega)
    have d26 : (op == 25) = false := beq_eq_false_iff_ne.2 (by omega)
    have d27 : decide ((26 : Int) ≤ op) = false := decide_eq_false (by omega)
    have d28 : decide (op ≤ (26 : Int)) = true := decide_eq_true (by omega)
    have d29 : (op == 26) = false := beq_eq_false_iff_ne.2 (by omega)
    clear h
    go_enter Tryd.func39, Tryd.ntmps39
    go_wp2
    go_ret
    exact ⟨rfl, rfl⟩
  · have H : Hid (arN op = 0) := by unfold Hid arN; rw [if_pos (by omega)]
    rw [H.out]
    clear H
    have d0 : decide ((1 : Int) ≤ op) = true := decide_eq_true (by omega)
    have d1 : decide (op ≤ (14 : Int)) = true := decide_eq_true (by omega)
    have d2 : decide ((15 : Int) ≤ op) = false := decide_eq_false (by omega)
    have d3 : decide (op ≤ (15 : Int)) = true := decide_eq_true (by omega)
    have d4 : (op == 15) = false := beq_eq_false_iff_ne.2 (by omega)
    have d5 : decide ((16 : Int) ≤ op) = false := decide_eq_false (by omega)
    have d6 : decide (op ≤ (16 : Int)) = true := decide_eq_true (by omega)
    have d7 : (op == 16) = false := beq_eq_false_iff_ne.2 (by omega)
    have d8 : decide ((17 : Int) ≤ op) = false := decide_eq_false (by omega)
    have d9 : decide (op ≤ (17 : Int)) = true := decide_eq_true (by omega)
    have d10 : (op == 17) = false := beq_eq_false_iff_ne.2 (by omega)
    have d11 : decide ((18 : Int) ≤ op) = false := decide_eq_false (by omega)
    have d12 : decide (op ≤ (18 : Int)) = true := decide_eq_true (by omega)
    have d13 : (op == 18) = false := beq_eq_false_iff_ne.2 (by omega)
    have d14 : decide ((19 : Int) ≤ op) = false := decide_eq_false (by omega)
    have d15 : decide (op ≤ (19 : Int)) = true := decide_eq_true (by omega)
    have d16 : (op == 19) = false := beq_eq_false_iff_ne.2 (by omega)
    have d17 : decide ((24 : Int) ≤ op) = false := decide_eq_false (by omega)
    have d18 : decide (op ≤ (24 : Int)) = true := decide_eq_true (by omega)
    have d19 : (op == 24) = false := beq_eq_false_iff_ne.2 (by omega)
    have d20 : decide ((25 : Int) ≤ op) = false := decide_eq_false (by omega)
    have d21 : decide (op ≤ (25 : Int)) = true := decide_eq_true (by omega)
    have d22 : (op == 25) = false := beq_eq_false_iff_ne.2 (by omega)
    have d23 : decide ((26 : Int) ≤ op) = false := decide_eq_false (by omega)
    have d24 : decide (op ≤ (26 : Int)) = true := decide_eq_true (by omega)
    have d25 : (op == 26) = false := beq_eq_false_iff_ne.2 (by omega)
    clear h
    go_enter Tryd.func39, Tryd.ntmps39
    go_wp2
    go_ret
    exact ⟨rfl, rfl⟩
  · have H : Hid (arN 15 = 1) := rfl
    rw [H.out]
    clear H
    go_enter Tryd.func39, Tryd.ntmps39
    go_wp2
    go_ret
    exact ⟨rfl, rfl⟩
  · have H : Hid (arN 16 = 2) := rfl
    rw [H.out]
    clear H
    go_enter Tryd.func39, Tryd.ntmps39
    go_wp2
    go_ret
    exact ⟨rfl, rfl⟩
  · have H : Hid (arN 17 = 2) := rfl
    rw [H.out]
    clear H
    go_enter Tryd.func39, Tryd.ntmps39
    go_wp2
    go_ret
    exact ⟨rfl, rfl⟩
  · have H : Hid (arN 18 = 2) := rfl
    rw [H.out]
    clear H
    go_enter Tryd.func39, Tryd.ntmps39
    go_wp2
    go_ret
    exact ⟨rfl, rfl⟩
  · have H : Hid (arN op = 1) := by unfold Hid arN; rw [if_neg (by omega), if_pos (by omega)]
    rw [H.out]
    clear H
    have d0 : decide ((1 : Int) ≤ op) = true := decide_eq_true (by omega)
    have d1 : decide (op ≤ (1 : Int)) = false := decide_eq_false (by omega)
    have d2 : (op == 1) = false := beq_eq_false_iff_ne.2 (by omega)
    have d3 : decide ((14 : Int) ≤ op) = true := decide_eq_true (by omega)
    have d4 : decide (op ≤ (14 : Int)) = false := decide_eq_false (by omega)
    have d5 : (op == 14) = false := beq_eq_false_iff_ne.2 (by omega)
    have d6 : decide ((15 : Int) ≤ op) = true := decide_eq_true (by omega)
    have d7 : decide (op ≤ (15 : Int)) = false := decide_eq_false (by omega)
    have d8 : (op == 15) = false := beq_eq_false_iff_ne.2 (by omega)
    have d9 : decide ((16 : Int) ≤ op) = true := decide_eq_true (by omega)
    have d10 : decide (op ≤ (16 : Int)) = false := decide_eq_false (by omega)
    have d11 : (op == 16) = false := beq_eq_false_iff_ne.2 (by omega)
    have d12 : decide ((17 : Int) ≤ op) = true := decide_eq_true (by omega)
    have d13 : decide (op ≤ (17 : Int)) = false := decide_eq_false (by omega)
    have d14 : (op == 17) = false := beq_eq_false_iff_ne.2 (by omega)
    have d15 : decide ((18 : Int) ≤ op) = true := decide_eq_true (by omega)
    have d16 : decide (op ≤ (18 : Int)) = false := decide_eq_false (by omega)
    have d17 : (op == 18) = false := beq_eq_false_iff_ne.2 (by omega)
    have d18 : decide ((19 : Int) ≤ op) = true := decide_eq_true (by omega)
    have d19 : decide (op ≤ (24 : Int)) = true := decide_eq_true (by omega)
    have d20 : decide ((25 : Int) ≤ op) = false := decide_eq_false (by omega)
    have d21 : decide (op ≤ (25 : Int)) = true := decide_eq_true (by omega)
    have d22 : (op == 25) = false := beq_eq_false_iff_ne.2 (by omega)
    have d23 : decide ((26 : Int) ≤ op) = false := decide_eq_false (by omega)
    have d24 : decide (op ≤ (26 : Int)) = true := decide_eq_true (by omega)
    have d25 : (op == 26) = false := beq_eq_false_iff_ne.2 (by omega)
    clear h
    go_enter Tryd.func39, Tryd.ntmps39
    go_wp2
    go_ret
    exact ⟨rfl, rfl⟩
  · have H : Hid (arN 25 = 2) := rfl
    rw [H.out]
    clear H
    go_enter Tryd.func39, Tryd.ntmps39
    go_wp2
    go_ret
    exact ⟨rfl, rfl⟩
  · have H : Hid (arN 26 = 2) := rfl
    rw [H.out]
    clear H
    go_enter Tryd.func39, Tryd.ntmps39
    go_wp2
    go_ret
    exact ⟨rfl, rfl⟩
  · have H : Hid (arN op = -1) := by unfold Hid arN; rw [if_neg (by omega), if_neg (by omega), if_neg (by omega)]
    rw [H.out]
    clear H
    have d0 : decide ((1 : Int) ≤ op) = true := decide_eq_true (by omega)
    have d1 : decide (op ≤ (1 : Int)) = false := decide_eq_false (by omega)
    have d2 : (op == 1) = false := beq_eq_false_iff_ne.2 (by omega)
    have d3 : decide ((14 : Int) ≤ op) = true := decide_eq_true (by omega)
    have d4 : decide (op ≤ (14 : Int)) = false := decide_eq_false (by omega)
    have d5 : (op == 14) = false := beq_eq_false_iff_ne.2 (by omega)
    have d6 : decide ((15 : Int) ≤ op) = true := decide_eq_true (by omega)
    have d7 : decide (op ≤ (15 : Int)) = false := decide_eq_false (by omega)
    have d8 : (op == 15) = false := beq_eq_false_iff_ne.2 (by omega)
    have d9 : decide ((16 : Int) ≤ op) = true := decide_eq_true (by omega)
    have d10 : decide (op ≤ (16 : Int)) = false := decide_eq_false (by omega)
    have d11 : (op == 16) = false := beq_eq_false_iff_ne.2 (by omega)
    have d12 : decide ((17 : Int) ≤ op) = true := decide_eq_true (by omega)
    have d13 : decide (op ≤ (17 : Int)) = false := decide_eq_false (by omega)
    have d14 : (op == 17) = false := beq_eq_false_iff_ne.2 (by omega)
    have d15 : decide ((18 : Int) ≤ op) = true := decide_eq_true (by omega)
    have d16 : decide (op ≤ (18 : Int)) = false := decide_eq_false (by omega)
    have d17 : (op == 18) = false := beq_eq_false_iff_ne.2 (by omega)
    have d18 : decide ((19 : Int) ≤ op) = true := decide_eq_true (by omega)
    have d19 : decide (op ≤ (19 : Int)) = false := decide_eq_false (by omega)
    have d20 : (op == 19) = false := beq_eq_false_iff_ne.2 (by omega)
    have d21 : decide ((24 : Int) ≤ op) = true := decide_eq_true (by omega)
    have d22 : decide (op ≤ (24 : Int)) = false := decide_eq_false (by omega)
    have d23 : (op == 24) = false := beq_eq_false_iff_ne.2 (by omega)
    have d24 : decide ((25 : Int) ≤ op) = true := decide_eq_true (by omega)
    have d25 : decide (op ≤ (25 : Int)) = false := decide_eq_false (by omega)
    have d26 : (op == 25) = false := beq_eq_false_iff_ne.2 (by omega)
    have d27 : decide ((26 : Int) ≤ op) = true := decide_eq_true (by omega)
    have d28 : decide (op ≤ (26 : Int)) = false := decide_eq_false (by omega)
    have d29 : (op == 26) = false := beq_eq_false_iff_ne.2 (by omega)
    clear h
    go_enter Tryd.func39, Tryd.ntmps39
    go_wp2
    go_ret
    exact ⟨rfl, rfl⟩

theorem itAt_some {l : List It} {i : Nat} {x : It} (h : l[i]? = some x) : itAt l i = x := by unfold itAt; rw [h]
set_option maxRecDepth 100000 in
set_option maxHeartbeats 4000000 in
theorem rbegin_any {w : World} {v : Value} {O : List It} (h : ItIn w v O) (n : Nat) (hn : n ≤ O.length) (hO : O.length ≤ 1000) :
    Calls Tryd.prog 28 #[v, .int .i64 ((n : Int) - 1)] w fun e w' => e = .returned (.int .i64 (begB O n 1)) ∧ w' = w := by
  obtain ⟨ad, cap, hv⟩ := h.len
  subst hv
  have HR := Lib.hid h
  obtain ⟨z, hz⟩ : ∃ z, begB O n 1 = z := ⟨_, rfl⟩
  have HZ := Lib.hid hz
  rw [hz]
  clear h hz
  go_enter Tryd.func28, Tryd.ntmps28
  go_wp2
  go_loopw [5, 6] (fun wt i wr => ∃ (k : Nat) (want : Int), i = .int .i64 ((k : Int) - 1) ∧ wt = .int .i64 want ∧ k ≤ n ∧ 1 ≤ want ∧ want ≤ 1 + (n - k : Nat) ∧ Hid (begB O k want = z) ∧ wr = w) (fun _ i _ => (intOf i + 1).toNat)
  case atStart => exact ⟨n, 1, rfl, rfl, Nat.le_refl _, by omega, by omega, HZ, rfl⟩
  case round =>
    obtain ⟨k, want, rfl, rfl, hk, hw0, hw1, HE, hww⟩ := hrel
    subst hww
    cases k with
    | zero =>
      have HF : Hid (z = -1) := by unfold Hid; rw [← HE.out]; rfl
      go_wp2
      go_ret
      exact ⟨ret_int HF.out.symm, rfl⟩
    | succ k =>
      obtain ⟨x, hx⟩ : ∃ x, O[k]? = some x := ⟨_, List.getElem?_eq_getElem (by omega)⟩
      have hE := HE.out
      rw [begB, itAt_some hx] at hE
      obtain ⟨g, off, c1, hg, hgl, a0, a1, a2, a3, a4, a5, a6, a7, a8⟩ := HR.out.at hx
      simp only [Value.slice.injEq, true_and] at hg
      obtain ⟨rfl, rfl⟩ := hg
      have hkz : (k : Int) < (O.length : Int) := by omega
      have hk0 : (0 : Int) ≤ (k : Int) := by omega
      rw [show ((k + 1 : Nat) : Int) - 1 = (k : Int) by omega]
      have HA := Lib.hid (rarity_any wr x.op)
      have har := arN_in x.op
      obtain ⟨a, ha⟩ : ∃ a, arN x.op = a := ⟨_, rfl⟩
      rw [ha] at hE HA har
      by_cases hneg : a < 0
      · rw [if_pos hneg] at hE
        have HF := Lib.hid hE
        have hng : decide (a < 0) = true := decide_eq_true hneg
        clear hE hx ha HE
        go_wp2_with fail
        refine HA.out.mono ?_
        rintro e w2 ⟨rfl, rfl⟩
        go_wp2
        go_ret
        exact ⟨ret_int HF.out, rfl⟩
      rw [if_neg hneg] at hE
      have hng : decide (a < 0) = false := decide_eq_false hneg
      have hw2 : IntKind.i64.wrap (want + (a - 1)) = want + a - 1 := by rw [show want + (a - 1) = want + a - 1 by omega]; exact IntWalk.i64_in _ ⟨by omega, by omega⟩
      have hw3 : IntKind.i64.wrap (a - 1) = a - 1 := IntWalk.i64_in _ ⟨by omega, by omega⟩
      by_cases h0 : want + a - 1 = 0
      · rw [if_pos h0] at hE
        have HF := Lib.hid hE
        rw [h0] at hw2
        clear hE hx ha HE h0
        go_wp2_with fail
        refine HA.out.mono ?_
        rintro e w2 ⟨rfl, rfl⟩
        go_wp2
        go_ret
        exact ⟨ret_int HF.out, rfl⟩
      · rw [if_neg h0] at hE
        have HF := Lib.hid hE
        have h0b : (want + a - 1 == 0) = false := beq_eq_false_iff_ne.2 h0
        have hw4 : 1 ≤ want + a - 1 ∧ want + a - 1 ≤ 1 + (n - k : Nat) := by omega
        obtain ⟨u, hu⟩ : ∃ u, want + a - 1 = u := ⟨_, rfl⟩
        rw [hu] at hw2 h0b HF hw4
        clear hE hx ha HE h0
        go_wp2_with fail
        refine HA.out.mono ?_
        rintro e w2 ⟨rfl, rfl⟩
        go_wp2
        go_roundw
        case rel => exact ⟨k, u, by go_num, rfl, by omega, hw4.1, hw4.2, HF, trivial⟩
        case measure => simp [intOf]

end Go.Proofs.YthhjepgcbfmfeaaDoor
