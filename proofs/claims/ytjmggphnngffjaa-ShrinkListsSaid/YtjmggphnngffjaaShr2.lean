/- Contract of shrink's shrunk, at the closure of ShrinkLists (printed by gen_shr2.py). -/
import Derived.Test.YtjmggphnngffjaaShr1
import Derived.Test.YtjmggphnngffjaaShrPlain
namespace Go.Proofs.Ytjmggphnngffjaa
open Go.RowKit

set_option maxRecDepth 100000 in
set_option maxHeartbeats 4000000 in
theorem shrunk_few {w : World} {v : Value} {L : List Sm} (h : SmIn w v L) (h1 : ∀ y ∈ L, SmOne y) (hl : L.length ≤ 10000) {p q : Nat} {kind n : Int} (hp : Blk w p #[.int .i64 kind] 3) (hq : Blk w q #[.int .i64 n] 3) :
    Calls Try.prog 30 #[v, .func (.func 9) #[] #[.pointer (some ⟨p, 0, none⟩), .pointer (some ⟨q, 0, none⟩)]] w fun e w' => ∃ v', e = .returned v' ∧ SmIn w' v' (shrinkS (fewB kind n) L) ∧ Below w.heap.size w w' := by
  obtain ⟨P, hP⟩ : ∃ P : List Sm → Bool, fewB kind n = P := ⟨_, rfl⟩
  have HH : Hid (∀ (W : World) (u : Value) (C : List Sm) (base : Nat), Below w.heap.size w W → W.ownsRow base 31 12 u C.length (smFlat C) → C.length ≤ 100000 → Calls Try.prog 9 #[u, .pointer (some ⟨p, 0, none⟩), .pointer (some ⟨q, 0, none⟩)] W fun e w' => e = .returned (.bool (P C)) ∧ Below base W w') := by
    intro W u C base hW hrow hlen
    rw [← hP]
    exact hold_any hrow (hp.keep hW) (hq.keep hW) hlen
  have HC : Hid (∀ (W : World) (u : Value) (C : List Sm), SmIn W u C → (∀ y ∈ C, y ∈ L) → C.length ≤ 10000 → Calls Try.prog 29 #[u] W fun e w' => ∃ v', e = .returned v' ∧ w'.ownsRow W.heap.size 31 12 v' C.length (smFlat C) ∧ Below W.heap.size W w') := fun W u C hu hC hlen => clone_any hu (fun y hy => h1 y (hC y hy)) (by omega)
  have HWO : Hid (∀ (W : World) (u : Value) (C : List Sm) (i : Nat), SmIn W u C → (∀ y ∈ C, y ∈ L) → i < C.length → C.length ≤ 10000 → Calls Try.prog 51 #[u, .int .i64 i] W fun e w' => ∃ v', e = .returned v' ∧ w'.ownsRow W.heap.size 31 12 v' (lessS i C).length (smFlat (lessS i C)) ∧ Below W.heap.size W w') := fun W u C i hu hC hi hlen => without_any hu (fun y hy => h1 y (hC y hy)) hi hlen
  rw [hP]
  obtain ⟨R, hRS⟩ : ∃ R, shrinkS P L = R := ⟨_, rfl⟩
  have HRS := Lib.hid hRS
  rw [hRS]
  obtain ⟨ad, cap, hv⟩ := h.len
  subst hv
  have HI := Lib.hid h
  clear h h1 hP hRS
  go_enter Try.func30, Try.ntmps30
  go_wp2_with fail
  refine (HC.out _ _ _ HI.out (fun y hy => hy) hl).mono ?_
  rintro e w1 ⟨v1, rfl, hr1, hb1⟩
  obtain ⟨ad1, cap1, hv1⟩ := owns_len hr1
  subst hv1
  have HB1 := Lib.hid hb1
  have HI1 := Lib.hid (SmIn.of_row hr1)
  have HII1 := Lib.hid (HI.out.keep hb1)
  clear hr1 hb1
  go_wp2_with fail
  refine (HC.out _ _ _ HII1.out (fun y hy => hy) hl).mono ?_
  rintro e w2 ⟨v2, rfl, hr2, hb2⟩
  have HB2 := Lib.hid (HB1.out.trans (hb2.mono HB1.out.size))
  have HI2 := Lib.hid (HI1.out.keep hb2)
  have HR2 := Lib.hid hr2
  have HQ := Lib.hid hb2
  clear hr2 hb2
  go_wp2_with fail
  refine (HH.out _ _ _ _ HB2.out HR2.out (by omega)).mono ?_
  rintro e w3 ⟨rfl, hb3⟩
  have HB3 := Lib.hid (HB2.out.trans (hb3.mono HB1.out.size))
  have HI3 := Lib.hid (HI1.out.keep (HQ.out.trans hb3))
  obtain ⟨b, hb⟩ : ∃ b, P L = b := ⟨_, rfl⟩
  rw [hb]
  have HPL := Lib.hid hb
  clear hb3 hb HB2 HI2 HR2 HQ HII1 HI1 HB1
  cases b
  · have HS : Hid (R = L) := by unfold Hid; rw [← HRS.out]; unfold shrinkS; rw [HPL.out]; rfl
    go_wp2
    go_ret
    exact ⟨_, rfl, by rw [HS.out]; exact HI3.out, HB3.out⟩
  · have HR0 : Hid (runS P (L.length + 1) L = R) := by unfold Hid; rw [← HRS.out]; unfold shrinkS; rw [HPL.out]; rfl
    go_wp2
    go_loopw [5, 6] (fun vo n wr => ∃ (M : List Sm) (m : Int), n = .int .i64 m ∧ -1 ≤ m ∧ m ≤ 10000 ∧ M.length ≤ 10000 ∧ Hid (SmIn wr vo M ∧ (∀ y ∈ M, y ∈ L) ∧ Below w.heap.size w wr ∧ (((∃ k, M.length < k ∧ runS P k M = R) ∧ m ≠ (M.length : Int) ∧ (m = -1 ∨ (M.length : Int) < m)) ∨ (m = (M.length : Int) ∧ R = M)))) (fun _ n _ => msr n)
    case atStart => exact ⟨L, -1, rfl, by omega, by omega, hl, HI3.out, fun y hy => hy, HB3.out, .inl ⟨⟨L.length + 1, by omega, HR0.out⟩, by omega, .inl rfl⟩⟩
    case round =>
      obtain ⟨M, m, rfl, hm0, hm1, hml, HALL⟩ := hrel
      obtain ⟨hM, hmem, hB, hcase⟩ := HALL.out
      obtain ⟨adM, capM, hvM⟩ := hM.len
      subst hvM
      by_cases hne : m = (M.length : Int)
      · have HF : Hid (R = M) := by
          rcases hcase with ⟨_, h, _⟩ | ⟨_, h⟩
          · exact absurd hne h
          · exact h
        have hneb : (m != (M.length : Int)) = false := by simpa using hne
        have HM := Lib.hid (And.intro hM hB)
        clear hM hmem hB hcase HALL hne
        go_wp2
        go_ret
        exact ⟨_, rfl, by rw [HF.out]; exact HM.out.1, HM.out.2⟩
      · obtain ⟨⟨kk, hkk, hrun⟩, _, hmm⟩ : (∃ k, M.length < k ∧ runS P k M = R) ∧ m ≠ (M.length : Int) ∧ (m = -1 ∨ (M.length : Int) < m) := by
          rcases hcase with h | ⟨h, _⟩
          · exact h
          · exact absurd h hne
        have hneb : (m != (M.length : Int)) = true := by simpa using hne
        obtain ⟨M2, hM2⟩ : ∃ M2, passS P M.length M = M2 := ⟨_, rfl⟩
        have HM := Lib.hid (And.intro hM (And.intro hmem hB))
        have HP2 := Lib.hid hM2
        have HRUN := Lib.hid (And.intro hkk hrun)
        have HMM := Lib.hid hmm
        have hnm : -1 ≤ (M.length : Int) - 1 := by omega
        obtain ⟨wo, hwo⟩ : ∃ w', wr = w' := ⟨_, rfl⟩
        rw [hwo] at HM ⊢
        clear hM hmem hB hcase HALL hne hM2 hkk hrun hmm hwo
        go_wp2
        go_loopw [5, 7] (fun vo i wr => ∃ (C : List Sm) (j : Int), i = .int .i64 j ∧ -1 ≤ j ∧ j < 10000 ∧ j < (C.length : Int) ∧ C.length ≤ 10000 ∧ Hid (SmIn wr vo C ∧ (∀ y ∈ C, y ∈ L) ∧ Below w.heap.size w wr ∧ passS P (j + 1).toNat C = M2 ∧ C.length ≤ M.length)) (fun _ i _ => (intOf i + 1).toNat)
        case atStart => exact ⟨M, _, rfl, hnm, by omega, by omega, hml, HM.out.1, HM.out.2.1, HM.out.2.2, by rw [show ((M.length : Int) - 1 + 1).toNat = M.length by omega]; exact HP2.out, Nat.le_refl _⟩
        case round =>
          obtain ⟨C, j, rfl, hj0, hj1, hjc, hcl, HALL⟩ := hrel
          obtain ⟨hC, hmem, hB, hpass, hCM⟩ := HALL.out
          obtain ⟨adC, capC, hvC⟩ := hC.len
          subst hvC
          by_cases hneg : j < 0
          · have hj : j = -1 := by omega
            subst hj
            have HE : Hid (C = M2) := hpass
            have HCC := Lib.hid (And.intro hC (And.intro hmem (And.intro hB hCM)))
            clear hC hmem hB hpass hCM HALL hneg hj0 hj1 hjc
            go_wp2
            go_roundw
            case rel =>
              refine ⟨C, (M.length : Int), rfl, by omega, by omega, hcl, HCC.out.1, HCC.out.2.1, HCC.out.2.2.1, ?_⟩
              by_cases he : C.length = M.length
              · refine .inr ⟨by omega, ?_⟩
                have hp2 : (passS P M.length M).length = M.length := by rw [HP2.out, ← HE.out]; exact he
                rw [runS_stop HRUN.out.1 HRUN.out.2 hp2, HE.out, ← HP2.out, passS_same P M.length M (Nat.le_refl _) hp2]
              · refine .inl ⟨?_, by omega, .inr (by have := HCC.out.2.2.2; omega)⟩
                have hp2 : (passS P M.length M).length ≠ M.length := by rw [HP2.out, ← HE.out]; exact he
                have hgo := runS_go HRUN.out.1 HRUN.out.2 hp2
                rw [HP2.out, ← HE.out] at hgo
                exact hgo
            case measure =>
              have := HMM.out
              show msr (.int .i64 (M.length : Int)) < msr (.int .i64 m)
              rw [msr_val, msr_val, if_neg (show ¬ ((M.length : Int) = -1) by omega)]
              by_cases hm1 : m = -1
              · rw [if_pos hm1]; omega
              · rw [if_neg hm1]; omega
          · obtain ⟨jn, rfl⟩ : ∃ jn : Nat, j = (jn : Int) := ⟨j.toNat, by omega⟩
            have hjn : jn < C.length := by omega
            have hll := lessS_len hjn
            have HNX : Hid ((P (lessS jn C) = true → passS P jn (lessS jn C) = M2) ∧ (P (lessS jn C) = false → passS P jn C = M2)) := by
              rw [show ((jn : Int) + 1).toNat = jn + 1 by omega] at hpass
              rw [passS] at hpass
              refine ⟨fun h => by rw [if_pos h] at hpass; exact hpass, fun h => by rw [if_neg (by rw [h]; decide)] at hpass; exact hpass⟩
            have HLM : Hid (∀ y ∈ lessS jn C, y ∈ L) := fun y hy => hmem y (lessS_mem hy)
            have HW := Lib.hid (HWO.out _ _ C jn hC hmem hjn hcl)
            have HCC := Lib.hid (And.intro hC (And.intro hmem (And.intro hB hCM)))
            have hjz : (0 : Int) ≤ (jn : Int) := by omega
            obtain ⟨D, hD⟩ : ∃ D, lessS jn C = D := ⟨_, rfl⟩
            rw [hD] at hll HNX HLM HW
            clear hC hmem hB hpass hCM HALL hneg hj0 hD
            go_wp2_with fail
            refine HW.out.mono ?_
            rintro e w4 ⟨v4, rfl, hr4, hb4⟩
            obtain ⟨ad4, cap4, hv4⟩ := owns_len hr4
            subst hv4
            have HI4 := Lib.hid (SmIn.of_row hr4)
            have HB4 := Lib.hid (HCC.out.2.2.1.trans (hb4.mono HCC.out.2.2.1.size))
            have HC4 := Lib.hid (HCC.out.1.keep hb4)
            clear hr4 hb4
            go_wp2_with fail
            refine (HC.out _ _ _ HI4.out HLM.out (by omega)).mono ?_
            rintro e w5 ⟨v5, rfl, hr5, hb5⟩
            have HB5 := Lib.hid (HB4.out.trans (hb5.mono HB4.out.size))
            have HR5 := Lib.hid hr5
            have HQ5 := Lib.hid hb5
            clear hr5 hb5
            go_wp2_with fail
            refine (HH.out _ _ _ _ HB5.out HR5.out (by omega)).mono ?_
            rintro e w6 ⟨rfl, hb6⟩
            have HB6 := Lib.hid (HB5.out.trans (hb6.mono HB4.out.size))
            have HI6 := Lib.hid (HI4.out.keep (HQ5.out.trans hb6))
            have HC6 := Lib.hid (HC4.out.keep (HQ5.out.trans hb6))
            obtain ⟨b, hb⟩ : ∃ b, P D = b := ⟨_, rfl⟩
            have HPD := Lib.hid hb
            rw [hb]
            clear hb6 hb HB5 HR5 HQ5 HB4 HI4 HC4
            cases b
            · have HN := Lib.hid (HNX.out.2 HPD.out)
              go_wp2
              go_roundw
              case rel => exact ⟨C, (jn : Int) - 1, by go_num, by omega, by omega, by omega, hcl, HC6.out, HCC.out.2.1, HB6.out, by rw [show ((jn : Int) - 1 + 1).toNat = jn by omega]; exact HN.out, HCC.out.2.2.2⟩
              case measure => simp [intOf]
            · have HN := Lib.hid (HNX.out.1 HPD.out)
              go_wp2
              go_roundw
              case rel => exact ⟨D, (jn : Int) - 1, by go_num, by omega, by omega, by omega, by omega, HI6.out, HLM.out, HB6.out, by rw [show ((jn : Int) - 1 + 1).toNat = jn by omega]; exact HN.out, by have := HCC.out.2.2.2; omega⟩
              case measure => simp [intOf]

end Go.Proofs.Ytjmggphnngffjaa
