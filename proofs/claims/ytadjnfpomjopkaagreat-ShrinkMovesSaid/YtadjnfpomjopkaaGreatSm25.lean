/- The reference: Free (printed by gen_r4.py). The reference: Enabled, Who, Any, Stuck (printed by gen_r5.py). -/
import Derived.Test.YtadjnfpomjopkaaGreatSm24
import Derived.BigQuiet

namespace Go.Proofs.YtadjnfpomjopkaaGreat
open Go.RowKit

theorem free_stage {M : Mdl} {s : Sta} {k : Nat} {u : Int} {x : Ev} (hx : M.events[k]? = some x) (h : inM x.stage M.stages.length = false) : freeS M s (k : Int) u = false := by
  unfold freeS freeV
  rw [Int.toNat_natCast, evG_of hx]
  by_cases p : x.stage < 0
  · rw [hasB_neg _ p]; simp
  · rw [decide_eq_false (show ¬ x.stage < (M.stages.length : Int) from fun q => by rw [inM_iff.2 ⟨by omega, q⟩] at h; cases h)]; simp
theorem free_open {M : Mdl} {s : Sta} {k : Nat} {u : Int} {x : Ev} (hx : M.events[k]? = some x) (h : hasB s.opn x.stage = false) : freeS M s (k : Int) u = false := by
  unfold freeS freeV
  rw [Int.toNat_natCast, evG_of hx, h]; simp
theorem free_times {M : Mdl} {s : Sta} {k : Nat} {u c : Int} {x : Ev} (hx : M.events[k]? = some x) (hc : atZ s.cnt (k : Int) = c) (h : 0 < x.times ∧ x.times ≤ c) : freeS M s (k : Int) u = false := by
  unfold freeS freeV
  rw [Int.toNat_natCast, evG_of hx, hc, decide_eq_false (show ¬ x.times ≤ 0 by omega), decide_eq_false (show ¬ c < x.times by omega)]; simp
theorem free_rest {M : Mdl} {s : Sta} {k : Nat} {u c : Int} {x : Ev} (hx : M.events[k]? = some x) (h0 : inM (k : Int) M.events.length = true) (h1 : complS M s = false) (h2 : inM x.stage M.stages.length = true) (h3 : hasB s.opn x.stage = true) (hc : atZ s.cnt (k : Int) = c) (h : ¬ (0 < x.times ∧ x.times ≤ c)) : freeS M s (k : Int) u = ofR M x.role u := by
  unfold freeS freeV
  rw [Int.toNat_natCast, evG_of hx, hc, h0, h1, h3, decide_eq_true (inM_iff.1 h2).2]
  have : (decide (x.times ≤ 0) || decide (c < x.times)) = true := by
    rw [Bool.or_eq_true, decide_eq_true_eq, decide_eq_true_eq]; omega
  rw [this]; simp
set_option maxRecDepth 100000 in
set_option maxHeartbeats 4000000 in
theorem rfreeQ {w : World} {q : Mem} {M : Mdl} {r : Stm} {s : Sta} (hm : MdQ w q M) (hs : StQ w r s) (hk : SOK s) (hro : ∀ x ∈ M.roles, N64 x.2) (e u : Int) : Calls Tryz.prog 48 #[.agg (mdC q M), .agg (stC r s), .int .i64 e, .int .i64 u] w (Ret w (.bool (freeS M s e u))) := by
  have hme := hm.events.max
  obtain ⟨W1, W0, h1, h2, HB, HM, HS, HF⟩ := boxMS hm hs
  have HOK := Lib.hid hk
  have HB0 : Hid (Below W0.heap.size W0 W0) := Below.refl _ _
  have HI1 := Lib.hid (fun V => rin17 e M.events.length V)
  have HI2 := Lib.hid (fun V => rin17 u M.users.length V)
  have HI3 := Lib.hid (fun V => rin17 e s.cnt.length V)
  have HRL := Lib.hid hro
  have HCO : Hid (∀ V, Below W0.heap.size W0 V → Calls Tryz.prog 35 #[.agg (mdC q M), .agg (stC r s)] V (Ret V (.bool (complS M s)))) := fun V hV => rcomplQ (HM.out.below hV) (HS.out.below hV) hk
  unfold mdC stC at HCO
  clear hro
  unfold MdB StB at HF
  unfold mdC at h1
  unfold stC at h2
  unfold mdC stC
  clear hm hs hk
  obtain ⟨⟨c0, c1, c2, c3, c4, c5, c6, c7, c8, c9⟩, d0, d1, d2, d3, d4⟩ := HF.out _ HB0.out
  obtain ⟨R, hR⟩ : ∃ R, freeS M s e u = R := ⟨_, rfl⟩
  have HRR := Lib.hid hR
  rw [hR]
  clear hR
  go_enter Tryz.func48, Tryz.ntmps48
  cases i1 : inM e M.events.length
  case false =>
    have HR : Hid (freeS M s e u = false) := by unfold Hid freeS; rw [i1]; rfl
    rw [i1] at HI1
    clear i1
    go_wp2_with fail
    refine (HI1.out _).mono ?_
    rintro e w9 ⟨rfl, rfl⟩
    go_wp2
    go_ret
    exact ⟨ret_bool ((HRR.out.symm.trans HR.out).symm), HB.out.trans (HB0.out.mono HB.out.size)⟩
  rw [i1] at HI1
  have HINE := Lib.hid i1
  obtain ⟨k, rfl, hkl⟩ := inM_nat i1
  clear i1
  go_wp2_with fail
  refine (HI1.out _).mono ?_
  rintro e w9 ⟨rfl, rfl⟩
  cases i2 : inM u M.users.length
  case false =>
    have HR : Hid (freeS M s (k : Int) u = false) := by
      unfold Hid freeS freeV ofR; rw [i2]; simp
    rw [i2] at HI2
    clear i2
    go_wp2_with fail
    refine (HI2.out _).mono ?_
    rintro e w9 ⟨rfl, rfl⟩
    go_wp2
    go_ret
    exact ⟨ret_bool ((HRR.out.symm.trans HR.out).symm), HB.out.trans (HB0.out.mono HB.out.size)⟩
  rw [i2] at HI2
  have HI2E := Lib.hid i2
  clear i2
  go_wp2_with fail
  refine (HI2.out _).mono ?_
  rintro e w9 ⟨rfl, rfl⟩
  obtain ⟨x, b, off, ai, ki, hx, ha, -, ⟨a0, a1, a2, a3, a4⟩, W3, h3, hb3, x3⟩ := eventBox HM.out.events hkl
  have hk0 : (0 : Int) ≤ (k : Int) := Int.natCast_nonneg _
  have hk1 := ltI hkl
  have hx0 := Lib.hid hx
  have HX3 := Lib.hid x3
  have HB3 := Lib.hid hb3
  have HI4 := Lib.hid (fun V => rin17 x.stage M.stages.length V)
  have HI5 := Lib.hid (fun V => rin17 x.role M.roles.length V)
  have HOP := Lib.hid (fun V => rhasN HOK.out.opn x.stage V)
  rw [ha] at c5 HCO
  clear hx x3 hb3
  cases i3 : inM (k : Int) s.cnt.length
  · rw [i3] at HI3
    have HAZ := Lib.hid (atZ_out i3)
    clear i3
    go_upto_region 4 with fail
    clear c0 c1 c2 c3 c4 c5 c6 c7 c8 c9 d0 d1 d2 d3 d4
    obtain ⟨⟨c0, c1, c2, c3, c4, c5, c6, c7, c8, c9⟩, d0, d1, d2, d3, d4⟩ := HF.out _ HB3.out
    go_wp2_with fail
    refine (HI3.out _).mono ?_
    rintro e w9 ⟨rfl, rfl⟩
    go_wp2_with fail
    refine (HCO.out _ HB3.out).mono ?_
    rintro e4 W4 ⟨rfl, hb4⟩
    have HB4 := Lib.hid (HB3.out.trans (hb4.mono HB3.out.size))
    have HX4 := Lib.hid (HX3.out.keep hb4)
    clear c0 c1 c2 c3 c4 c5 c6 c7 c8 c9 d0 d1 d2 d3 d4 hb4
    obtain ⟨⟨c0, c1, c2, c3, c4, c5, c6, c7, c8, c9⟩, d0, d1, d2, d3, d4⟩ := HF.out _ HB4.out
    have g1 := HX4.out.cell (i := 1) rfl
    have g2 := HX4.out.cell (i := 2) rfl
    have g4 := HX4.out.cell (i := 4) rfl
    cases cc : complS M s
    case true =>
      have HR : Hid (freeS M s (k : Int) u = false) := by unfold Hid freeS; rw [cc]; simp
      clear cc
      go_wp2
      go_ret
      exact ⟨ret_bool ((HRR.out.symm.trans HR.out).symm), HB.out.trans (HB4.out.mono HB.out.size)⟩
    have HCC := Lib.hid cc
    clear cc
    cases i4 : inM x.stage M.stages.length
    case false =>
      have HR : Hid (freeS M s (k : Int) u = false) := free_stage hx0 i4
      rw [i4] at HI4
      clear i4
      go_wp2_with fail
      refine (HI4.out _).mono ?_
      rintro e w9 ⟨rfl, rfl⟩
      go_wp2
      go_ret
      exact ⟨ret_bool ((HRR.out.symm.trans HR.out).symm), HB.out.trans (HB4.out.mono HB.out.size)⟩
    rw [i4] at HI4
    have HI4E := Lib.hid i4
    clear i4
    go_wp2_with fail
    refine (HI4.out _).mono ?_
    rintro e w9 ⟨rfl, rfl⟩
    cases h1 : hasB s.opn x.stage
    case false =>
      have HR : Hid (freeS M s (k : Int) u = false) := free_open hx0 h1
      rw [h1] at HOP
      clear h1
      go_wp2_with fail
      refine (HOP.out _).mono ?_
      rintro e w9 ⟨rfl, rfl⟩
      go_wp2
      go_ret
      exact ⟨ret_bool ((HRR.out.symm.trans HR.out).symm), HB.out.trans (HB4.out.mono HB.out.size)⟩
    rw [h1] at HOP
    have HOPE := Lib.hid h1
    clear h1
    go_wp2_with fail
    refine (HOP.out _).mono ?_
    rintro e w9 ⟨rfl, rfl⟩
    by_cases tm : 0 < x.times ∧ x.times ≤ 0
    case pos =>
      exact absurd tm (by omega)
    have HTM : Hid (freeS M s (k : Int) u = ofR M x.role u) := free_rest hx0 HINE.out HCC.out HI4E.out HOPE.out HAZ.out tm
    cases i5 : inM x.role M.roles.length
    case false =>
      have HR : Hid (freeS M s (k : Int) u = false) := by unfold Hid; rw [HTM.out]; unfold ofR; rw [i5]; rfl
      rw [i5] at HI5
      clear i5
      rcases (show x.times ≤ 0 ∨ (0 < x.times ∧ 0 < x.times) by omega) with q | q
      · have q1 : decide ((0 : Int) < x.times) = false := decide_eq_false (by omega)
        clear q
        clear tm
        go_wp2_with fail
        refine (HI5.out _).mono ?_
        rintro e w9 ⟨rfl, rfl⟩
        go_wp2
        go_ret
        exact ⟨ret_bool ((HRR.out.symm.trans HR.out).symm), HB.out.trans (HB4.out.mono HB.out.size)⟩
      · have q1 : decide ((0 : Int) < x.times) = true := decide_eq_true q.1
        have q2 : decide (x.times ≤ 0) = false := decide_eq_false (by omega)
        clear q
        clear tm
        go_wp2_with fail
        refine (HI5.out _).mono ?_
        rintro e w9 ⟨rfl, rfl⟩
        go_wp2
        go_ret
        exact ⟨ret_bool ((HRR.out.symm.trans HR.out).symm), HB.out.trans (HB4.out.mono HB.out.size)⟩
    obtain ⟨j, hj, hjl⟩ := inM_nat i5
    obtain ⟨y, hy⟩ : ∃ y, M.roles[j]? = some y := ⟨_, List.getElem?_eq_getElem hjl⟩
    obtain ⟨b7, o7, c7, hv7, hb7, r0, r1⟩ := roleRow (HM.out.below HB4.out).roles hy
    simp only [Value.slice.injEq] at hv7
    have ha7 := hv7.1
    have hj0 : (0 : Int) ≤ (j : Int) := Int.natCast_nonneg _
    have hj1 := ltI hjl
    have HR : Hid (freeS M s (k : Int) u = hasB y.2 u) := by unfold Hid; rw [HTM.out]; unfold ofR; rw [i5, HI2E.out, hj, Int.toNat_natCast, rolU_of hy]; rfl
    have HHU := Lib.hid (rhasN (HRL.out y (List.mem_of_getElem? hy)) u)
    rw [i5] at HI5
    rw [hj] at g1 HI5
    rw [ha7] at c3
    clear i5 hy hv7 hb7 hjl hj HTM
    rcases (show x.times ≤ 0 ∨ (0 < x.times ∧ 0 < x.times) by omega) with q | q
    · have q1 : decide ((0 : Int) < x.times) = false := decide_eq_false (by omega)
      clear q
      clear tm
      go_wp2_with fail
      refine (HI5.out _).mono ?_
      rintro e w9 ⟨rfl, rfl⟩
      go_wp2_with fail
      refine (HHU.out _).mono ?_
      rintro e w9 ⟨rfl, rfl⟩
      go_wp2
      go_ret
      exact ⟨ret_bool ((HRR.out.symm.trans HR.out).symm), HB.out.trans (HB4.out.mono HB.out.size)⟩
    · have q1 : decide ((0 : Int) < x.times) = true := decide_eq_true q.1
      have q2 : decide (x.times ≤ 0) = false := decide_eq_false (by omega)
      clear q
      clear tm
      go_wp2_with fail
      refine (HI5.out _).mono ?_
      rintro e w9 ⟨rfl, rfl⟩
      go_wp2_with fail
      refine (HHU.out _).mono ?_
      rintro e w9 ⟨rfl, rfl⟩
      go_wp2
      go_ret
      exact ⟨ret_bool ((HRR.out.symm.trans HR.out).symm), HB.out.trans (HB4.out.mono HB.out.size)⟩
  · rw [i3] at HI3
    obtain ⟨k', hkk, hkc⟩ := inM_nat i3
    have hkk' : k' = k := by omega
    rw [hkk'] at hkc
    clear hkk hkk' k'
    obtain ⟨cv, hcv⟩ : ∃ c, s.cnt[k]? = some c := ⟨_, List.getElem?_eq_getElem hkc⟩
    obtain ⟨b8, o8, c8', hv8, hb8, z8⟩ := (HS.out.below HB3.out).cnt.int hcv
    simp only [Value.slice.injEq, true_and] at hv8
    have ha8 := hv8.1
    have hkc1 := ltI hkc
    have HAZ := Lib.hid (atZ_in hcv)
    clear i3 hcv hv8 hkc
    go_upto_region 4 with fail
    clear c0 c1 c2 c3 c4 c5 c6 c7 c8 c9 d0 d1 d2 d3 d4
    obtain ⟨⟨c0, c1, c2, c3, c4, c5, c6, c7, c8, c9⟩, d0, d1, d2, d3, d4⟩ := HF.out _ HB3.out
    rw [ha8] at d4 HCO
    go_wp2_with fail
    refine (HI3.out _).mono ?_
    rintro e w9 ⟨rfl, rfl⟩
    go_upto_region 6 with fail
    go_wp2_with fail
    refine (HCO.out _ HB3.out).mono ?_
    rintro e4 W4 ⟨rfl, hb4⟩
    have HB4 := Lib.hid (HB3.out.trans (hb4.mono HB3.out.size))
    have HX4 := Lib.hid (HX3.out.keep hb4)
    clear c0 c1 c2 c3 c4 c5 c6 c7 c8 c9 d0 d1 d2 d3 d4 hb4
    obtain ⟨⟨c0, c1, c2, c3, c4, c5, c6, c7, c8, c9⟩, d0, d1, d2, d3, d4⟩ := HF.out _ HB4.out
    have g1 := HX4.out.cell (i := 1) rfl
    have g2 := HX4.out.cell (i := 2) rfl
    have g4 := HX4.out.cell (i := 4) rfl
    cases cc : complS M s
    case true =>
      have HR : Hid (freeS M s (k : Int) u = false) := by unfold Hid freeS; rw [cc]; simp
      clear cc
      go_wp2
      go_ret
      exact ⟨ret_bool ((HRR.out.symm.trans HR.out).symm), HB.out.trans (HB4.out.mono HB.out.size)⟩
    have HCC := Lib.hid cc
    clear cc
    cases i4 : inM x.stage M.stages.length
    case false =>
      have HR : Hid (freeS M s (k : Int) u = false) := free_stage hx0 i4
      rw [i4] at HI4
      clear i4
      go_wp2_with fail
      refine (HI4.out _).mono ?_
      rintro e w9 ⟨rfl, rfl⟩
      go_wp2
      go_ret
      exact ⟨ret_bool ((HRR.out.symm.trans HR.out).symm), HB.out.trans (HB4.out.mono HB.out.size)⟩
    rw [i4] at HI4
    have HI4E := Lib.hid i4
    clear i4
    go_wp2_with fail
    refine (HI4.out _).mono ?_
    rintro e w9 ⟨rfl, rfl⟩
    cases h1 : hasB s.opn x.stage
    case false =>
      have HR : Hid (freeS M s (k : Int) u = false) := free_open hx0 h1
      rw [h1] at HOP
      clear h1
      go_wp2_with fail
      refine (HOP.out _).mono ?_
      rintro e w9 ⟨rfl, rfl⟩
      go_wp2
      go_ret
      exact ⟨ret_bool ((HRR.out.symm.trans HR.out).symm), HB.out.trans (HB4.out.mono HB.out.size)⟩
    rw [h1] at HOP
    have HOPE := Lib.hid h1
    clear h1
    go_wp2_with fail
    refine (HOP.out _).mono ?_
    rintro e w9 ⟨rfl, rfl⟩
    by_cases tm : 0 < x.times ∧ x.times ≤ cv
    case pos =>
      have HR : Hid (freeS M s (k : Int) u = false) := free_times hx0 HAZ.out tm
      have q1 := tm.1
      have q2 := tm.2
      clear tm
      go_wp2
      go_ret
      exact ⟨ret_bool ((HRR.out.symm.trans HR.out).symm), HB.out.trans (HB4.out.mono HB.out.size)⟩
    have HTM : Hid (freeS M s (k : Int) u = ofR M x.role u) := free_rest hx0 HINE.out HCC.out HI4E.out HOPE.out HAZ.out tm
    cases i5 : inM x.role M.roles.length
    case false =>
      have HR : Hid (freeS M s (k : Int) u = false) := by unfold Hid; rw [HTM.out]; unfold ofR; rw [i5]; rfl
      rw [i5] at HI5
      clear i5
      rcases (show x.times ≤ 0 ∨ (0 < x.times ∧ cv < x.times) by omega) with q | q
      · have q1 : decide ((0 : Int) < x.times) = false := decide_eq_false (by omega)
        clear q
        clear tm
        go_wp2_with fail
        refine (HI5.out _).mono ?_
        rintro e w9 ⟨rfl, rfl⟩
        go_wp2
        go_ret
        exact ⟨ret_bool ((HRR.out.symm.trans HR.out).symm), HB.out.trans (HB4.out.mono HB.out.size)⟩
      · have q1 : decide ((0 : Int) < x.times) = true := decide_eq_true q.1
        have q2 : decide (x.times ≤ cv) = false := decide_eq_false (by omega)
        clear q
        clear tm
        go_wp2_with fail
        refine (HI5.out _).mono ?_
        rintro e w9 ⟨rfl, rfl⟩
        go_wp2
        go_ret
        exact ⟨ret_bool ((HRR.out.symm.trans HR.out).symm), HB.out.trans (HB4.out.mono HB.out.size)⟩
    obtain ⟨j, hj, hjl⟩ := inM_nat i5
    obtain ⟨y, hy⟩ : ∃ y, M.roles[j]? = some y := ⟨_, List.getElem?_eq_getElem hjl⟩
    obtain ⟨b7, o7, c7, hv7, hb7, r0, r1⟩ := roleRow (HM.out.below HB4.out).roles hy
    simp only [Value.slice.injEq] at hv7
    have ha7 := hv7.1
    have hj0 : (0 : Int) ≤ (j : Int) := Int.natCast_nonneg _
    have hj1 := ltI hjl
    have HR : Hid (freeS M s (k : Int) u = hasB y.2 u) := by unfold Hid; rw [HTM.out]; unfold ofR; rw [i5, HI2E.out, hj, Int.toNat_natCast, rolU_of hy]; rfl
    have HHU := Lib.hid (rhasN (HRL.out y (List.mem_of_getElem? hy)) u)
    rw [i5] at HI5
    rw [hj] at g1 HI5
    rw [ha7] at c3
    clear i5 hy hv7 hb7 hjl hj HTM
    rcases (show x.times ≤ 0 ∨ (0 < x.times ∧ cv < x.times) by omega) with q | q
    · have q1 : decide ((0 : Int) < x.times) = false := decide_eq_false (by omega)
      clear q
      clear tm
      go_wp2_with fail
      refine (HI5.out _).mono ?_
      rintro e w9 ⟨rfl, rfl⟩
      go_wp2_with fail
      refine (HHU.out _).mono ?_
      rintro e w9 ⟨rfl, rfl⟩
      go_wp2
      go_ret
      exact ⟨ret_bool ((HRR.out.symm.trans HR.out).symm), HB.out.trans (HB4.out.mono HB.out.size)⟩
    · have q1 : decide ((0 : Int) < x.times) = true := decide_eq_true q.1
      have q2 : decide (x.times ≤ cv) = false := decide_eq_false (by omega)
      clear q
      clear tm
      go_wp2_with fail
      refine (HI5.out _).mono ?_
      rintro e w9 ⟨rfl, rfl⟩
      go_wp2_with fail
      refine (HHU.out _).mono ?_
      rintro e w9 ⟨rfl, rfl⟩
      go_wp2
      go_ret
      exact ⟨ret_bool ((HRR.out.symm.trans HR.out).symm), HB.out.trans (HB4.out.mono HB.out.size)⟩
end Go.Proofs.YtadjnfpomjopkaaGreat

namespace Go.Proofs.YtadjnfpomjopkaaGreat
open Go.RowKit

set_option maxRecDepth 100000 in
set_option maxHeartbeats 4000000 in
theorem renabQ {w : World} {q : Mem} {M : Mdl} {r : Stm} {s : Sta} (hm : MdQ w q M) (hs : StQ w r s) (hk : SOK s) (hro : ∀ x ∈ M.roles, N64 x.2) (e u : Int) : Calls Tryz.prog 46 #[.agg (mdC q M), .agg (stC r s), .int .i64 e, .int .i64 u] w (Ret w (.bool (enabS M s e u))) := by
  have hms := hm.sods.max
  obtain ⟨W1, W0, h1, h2, HB, HM, HS, HF⟩ := boxMS hm hs
  have HOK := Lib.hid hk
  have HB0 : Hid (Below W0.heap.size W0 W0) := Below.refl _ _
  have HFR := Lib.hid (rfreeQ HM.out HS.out hk hro e u)
  have HHA : Hid (∀ V (e u : Int), Below W0.heap.size W0 V → Calls Tryz.prog 34 #[.agg (stC r s), .int .i64 e, .int .i64 u] V (Ret V (.bool (hadS s e u)))) := fun V e u hV => rhadQ (HS.out.below hV) hk e u
  unfold mdC stC at HFR
  unfold stC at HHA
  clear hro
  unfold MdB StB at HF
  unfold mdC at h1
  unfold stC at h2
  unfold mdC stC
  clear hm hs hk
  obtain ⟨⟨c0, c1, c2, c3, c4, c5, c6, c7, c8, c9⟩, d0, d1, d2, d3, d4⟩ := HF.out _ HB0.out
  obtain ⟨R, hR⟩ : ∃ R, enabS M s e u = R := ⟨_, rfl⟩
  have HR : Hid (R = (freeS M s e u && !aptS M s e u)) := by unfold Hid; rw [← hR]; rfl
  rw [hR]
  clear hR
  obtain ⟨f, hf⟩ : ∃ f, freeS M s e u = f := ⟨_, rfl⟩
  rw [hf] at HFR HR
  clear hf
  go_enter Tryz.func46, Tryz.ntmps46
  go_wp2_with fail
  refine (HFR.out).mono ?_
  rintro e1 W1 ⟨rfl, hb1⟩
  have HB1 := Lib.hid (HB0.out.trans (hb1.mono HB0.out.size))
  clear c0 c1 c2 c3 c4 c5 c6 c7 c8 c9 d0 d1 d2 d3 d4 hb1
  obtain ⟨⟨c0, c1, c2, c3, c4, c5, c6, c7, c8, c9⟩, d0, d1, d2, d3, d4⟩ := HF.out _ HB1.out
  cases f
  · have HRT : Hid (R = false) := by unfold Hid; rw [HR.out]; rfl
    go_wp2
    go_ret
    exact ⟨ret_bool (HRT.out.symm), HB.out.trans (HB1.out.mono HB.out.size)⟩
  · have HRA : Hid (R = !aptS M s e u) := by unfold Hid; rw [HR.out]; rfl
    clear HR HFR
    go_wp2
    go_loopw [9, 10, 11] (fun i _ _ wr => ∃ k : Nat, i = .int .i64 (k : Int) ∧ k ≤ M.sods.length ∧ Hid (Below W0.heap.size W0 wr) ∧ Hid ((List.range k).any (fun i => aptX s e u (sodG M i)) = false)) (fun i _ _ _ => M.sods.length - (intOf i).toNat)
    case atStart => exact ⟨0, rfl, Nat.zero_le _, HB1.out, rfl⟩
    case round =>
      obtain ⟨k, rfl, hk, HB3, HALL⟩ := hrel
      clear c0 c1 c2 c3 c4 c5 c6 c7 c8 c9 d0 d1 d2 d3 d4
      obtain ⟨⟨c0, c1, c2, c3, c4, c5, c6, c7, c8, c9⟩, d0, d1, d2, d3, d4⟩ := HF.out _ HB3.out
      rcases Nat.lt_or_ge k M.sods.length with hlt | hge
      · obtain ⟨x, hx⟩ : ∃ x, M.sods[k]? = some x := ⟨_, List.getElem?_eq_getElem hlt⟩
        obtain ⟨b, off, cap, hv, hbl, a0, a1⟩ := sodRow (HM.out.below HB3.out).sods hx
        simp only [Value.slice.injEq] at hv
        have ha := hv.1
        have hkz := ltI hlt
        have hk0 : (0 : Int) ≤ (k : Int) := Int.natCast_nonneg _
        have HX : Hid (aptX s e u (sodG M k) = ((decide (x.1 = e) && hadS s x.2 u) || (decide (x.2 = e) && hadS s x.1 u))) := by unfold Hid; rw [sodG_of hx]; rfl
        clear hx hv hbl
        go_upto_region 5 with fail
        go_quiet (fail)
        have HB7 := Lib.hid (below_drewN HB3.out nq)
        generalize wr.drewN nq = W7 at HB7 ⊢
        clear c0 c1 c2 c3 c4 c5 c6 c7 c8 c9 d0 d1 d2 d3 d4
        obtain ⟨⟨c0, c1, c2, c3, c4, c5, c6, c7, c8, c9⟩, d0, d1, d2, d3, d4⟩ := HF.out _ HB7.out
        cases hA : decide (x.1 = e)
        · rw [hA] at HX
          have hA' : (x.1 == e) = _ := hA
          clear hA
          cases hB : decide (x.2 = e)
          · rw [hB] at HX
            have hB' : (x.2 == e) = _ := hB
            clear hB
            go_wp2
            (try rw [← ha])
            go_roundw
            case rel => exact ⟨k + 1, by go_num, hlt, HB7.out, anyR_miss HALL.out HX.out⟩
            case measure => simp [intOf]; omega
          · cases t2 : hadS s x.1 u
            · rw [hB, t2] at HX
              have HH2 : Hid (Calls Tryz.prog 34 #[.agg #[.slice r.a0 s.vals.length r.k0, .int .i64 s.opn, .int .i64 s.dne, .slice r.a3 s.did.length r.k3, .slice r.a4 s.cnt.length r.k4], .int .i64 x.1, .int .i64 u] W7 (Ret W7 (.bool false))) := by rw [← t2]; exact HHA.out _ _ _ HB7.out
              have hB' : (x.2 == e) = _ := hB
              clear hB t2
              go_wp2_with fail
              refine (HH2.out).mono ?_
              rintro e8 W8 ⟨rfl, hb8⟩
              have HB8 := Lib.hid (HB7.out.trans (hb8.mono HB7.out.size))
              clear c0 c1 c2 c3 c4 c5 c6 c7 c8 c9 d0 d1 d2 d3 d4 hb8
              obtain ⟨⟨c0, c1, c2, c3, c4, c5, c6, c7, c8, c9⟩, d0, d1, d2, d3, d4⟩ := HF.out _ HB8.out
              go_wp2
              (try rw [← ha])
              go_roundw
              case rel => exact ⟨k + 1, by go_num, hlt, HB8.out, anyR_miss HALL.out HX.out⟩
              case measure => simp [intOf]; omega
            · rw [hB, t2] at HX
              have HH2 : Hid (Calls Tryz.prog 34 #[.agg #[.slice r.a0 s.vals.length r.k0, .int .i64 s.opn, .int .i64 s.dne, .slice r.a3 s.did.length r.k3, .slice r.a4 s.cnt.length r.k4], .int .i64 x.1, .int .i64 u] W7 (Ret W7 (.bool true))) := by rw [← t2]; exact HHA.out _ _ _ HB7.out
              have hB' : (x.2 == e) = _ := hB
              clear hB t2
              go_wp2_with fail
              refine (HH2.out).mono ?_
              rintro e8 W8 ⟨rfl, hb8⟩
              have HB8 := Lib.hid (HB7.out.trans (hb8.mono HB7.out.size))
              clear c0 c1 c2 c3 c4 c5 c6 c7 c8 c9 d0 d1 d2 d3 d4 hb8
              obtain ⟨⟨c0, c1, c2, c3, c4, c5, c6, c7, c8, c9⟩, d0, d1, d2, d3, d4⟩ := HF.out _ HB8.out
              have HRT : Hid (R = false) := by unfold Hid; rw [HRA.out]; unfold aptS; rw [anyR_hit hlt HX.out]; rfl
              go_wp2
              go_ret
              exact ⟨ret_bool (HRT.out.symm), HB.out.trans (HB8.out.mono HB.out.size)⟩
        · cases t1 : hadS s x.2 u
          · rw [hA, t1] at HX
            have HH1 : Hid (Calls Tryz.prog 34 #[.agg #[.slice r.a0 s.vals.length r.k0, .int .i64 s.opn, .int .i64 s.dne, .slice r.a3 s.did.length r.k3, .slice r.a4 s.cnt.length r.k4], .int .i64 x.2, .int .i64 u] W7 (Ret W7 (.bool false))) := by rw [← t1]; exact HHA.out _ _ _ HB7.out
            have hA' : (x.1 == e) = _ := hA
            clear hA t1
            go_wp2_with fail
            refine (HH1.out).mono ?_
            rintro e8 W8 ⟨rfl, hb8⟩
            have HB8 := Lib.hid (HB7.out.trans (hb8.mono HB7.out.size))
            clear c0 c1 c2 c3 c4 c5 c6 c7 c8 c9 d0 d1 d2 d3 d4 hb8
            obtain ⟨⟨c0, c1, c2, c3, c4, c5, c6, c7, c8, c9⟩, d0, d1, d2, d3, d4⟩ := HF.out _ HB8.out
            cases hB : decide (x.2 = e)
            · rw [hB] at HX
              have hB' : (x.2 == e) = _ := hB
              clear hB
              go_wp2
              (try rw [← ha])
              go_roundw
              case rel => exact ⟨k + 1, by go_num, hlt, HB8.out, anyR_miss HALL.out HX.out⟩
              case measure => simp [intOf]; omega
            · cases t2 : hadS s x.1 u
              · rw [hB, t2] at HX
                have HH2 : Hid (Calls Tryz.prog 34 #[.agg #[.slice r.a0 s.vals.length r.k0, .int .i64 s.opn, .int .i64 s.dne, .slice r.a3 s.did.length r.k3, .slice r.a4 s.cnt.length r.k4], .int .i64 x.1, .int .i64 u] W8 (Ret W8 (.bool false))) := by rw [← t2]; exact HHA.out _ _ _ HB8.out
                have hB' : (x.2 == e) = _ := hB
                clear hB t2
                go_wp2_with fail
                refine (HH2.out).mono ?_
                rintro e9 W9 ⟨rfl, hb9⟩
                have HB9 := Lib.hid (HB8.out.trans (hb9.mono HB8.out.size))
                clear c0 c1 c2 c3 c4 c5 c6 c7 c8 c9 d0 d1 d2 d3 d4 hb9
                obtain ⟨⟨c0, c1, c2, c3, c4, c5, c6, c7, c8, c9⟩, d0, d1, d2, d3, d4⟩ := HF.out _ HB9.out
                go_wp2
                (try rw [← ha])
                go_roundw
                case rel => exact ⟨k + 1, by go_num, hlt, HB9.out, anyR_miss HALL.out HX.out⟩
                case measure => simp [intOf]; omega
              · rw [hB, t2] at HX
                have HH2 : Hid (Calls Tryz.prog 34 #[.agg #[.slice r.a0 s.vals.length r.k0, .int .i64 s.opn, .int .i64 s.dne, .slice r.a3 s.did.length r.k3, .slice r.a4 s.cnt.length r.k4], .int .i64 x.1, .int .i64 u] W8 (Ret W8 (.bool true))) := by rw [← t2]; exact HHA.out _ _ _ HB8.out
                have hB' : (x.2 == e) = _ := hB
                clear hB t2
                go_wp2_with fail
                refine (HH2.out).mono ?_
                rintro e9 W9 ⟨rfl, hb9⟩
                have HB9 := Lib.hid (HB8.out.trans (hb9.mono HB8.out.size))
                clear c0 c1 c2 c3 c4 c5 c6 c7 c8 c9 d0 d1 d2 d3 d4 hb9
                obtain ⟨⟨c0, c1, c2, c3, c4, c5, c6, c7, c8, c9⟩, d0, d1, d2, d3, d4⟩ := HF.out _ HB9.out
                have HRT : Hid (R = false) := by unfold Hid; rw [HRA.out]; unfold aptS; rw [anyR_hit hlt HX.out]; rfl
                go_wp2
                go_ret
                exact ⟨ret_bool (HRT.out.symm), HB.out.trans (HB9.out.mono HB.out.size)⟩
          · rw [hA, t1] at HX
            rw [Bool.true_and, Bool.true_or] at HX
            have HH1 : Hid (Calls Tryz.prog 34 #[.agg #[.slice r.a0 s.vals.length r.k0, .int .i64 s.opn, .int .i64 s.dne, .slice r.a3 s.did.length r.k3, .slice r.a4 s.cnt.length r.k4], .int .i64 x.2, .int .i64 u] W7 (Ret W7 (.bool true))) := by rw [← t1]; exact HHA.out _ _ _ HB7.out
            have hA' : (x.1 == e) = _ := hA
            clear hA t1
            go_wp2_with fail
            refine (HH1.out).mono ?_
            rintro e8 W8 ⟨rfl, hb8⟩
            have HB8 := Lib.hid (HB7.out.trans (hb8.mono HB7.out.size))
            clear c0 c1 c2 c3 c4 c5 c6 c7 c8 c9 d0 d1 d2 d3 d4 hb8
            obtain ⟨⟨c0, c1, c2, c3, c4, c5, c6, c7, c8, c9⟩, d0, d1, d2, d3, d4⟩ := HF.out _ HB8.out
            have HRT : Hid (R = false) := by unfold Hid; rw [HRA.out]; unfold aptS; rw [anyR_hit hlt HX.out]; rfl
            go_wp2
            go_ret
            exact ⟨ret_bool (HRT.out.symm), HB.out.trans (HB8.out.mono HB.out.size)⟩
      · have hkn : k = M.sods.length := by omega
        have HRT : Hid (R = true) := by unfold Hid; rw [HRA.out]; unfold aptS; rw [← hkn, HALL.out]; rfl
        have hge' := nltI (Nat.not_lt.2 hge)
        clear hkn
        go_wp2
        go_ret
        exact ⟨ret_bool (HRT.out.symm), HB.out.trans (HB3.out.mono HB.out.size)⟩

set_option maxRecDepth 100000 in
set_option maxHeartbeats 4000000 in
theorem rwhoQ {w : World} {q : Mem} {M : Mdl} {r : Stm} {s : Sta} (hm : MdQ w q M) (hs : StQ w r s) (hk : SOK s) (hro : ∀ x ∈ M.roles, N64 x.2) (hu : M.users.length ≤ 100000) (e : Int) : Calls Tryz.prog 33 #[.agg (mdC q M), .agg (stC r s), .int .i64 e] w fun o w' => ∃ v', o = .returned v' ∧ w'.ownsRow w.heap.size 3 1 v' (whoN M s e M.users.length).length (ints (whoN M s e M.users.length)) ∧ Below w.heap.size w w' := by
  obtain ⟨W1, W0, h1, h2, HB, HM, HS, HF⟩ := boxMS hm hs
  have HOK := Lib.hid hk
  have HB0 : Hid (Below W0.heap.size W0 W0) := Below.refl _ _
  have HEN : Hid (∀ V (u : Int), Below W0.heap.size W0 V → Calls Tryz.prog 46 #[.agg (mdC q M), .agg (stC r s), .int .i64 e, .int .i64 u] V (Ret V (.bool (enabS M s e u)))) := fun V u hV => renabQ (HM.out.below hV) (HS.out.below hV) hk hro e u
  unfold mdC stC at HEN
  clear hro
  unfold MdB StB at HF
  unfold mdC at h1
  unfold stC at h2
  unfold mdC stC
  clear hm hs hk
  obtain ⟨⟨c0, c1, c2, c3, c4, c5, c6, c7, c8, c9⟩, d0, d1, d2, d3, d4⟩ := HF.out _ HB0.out
  go_enter Tryz.func33, Tryz.ntmps33
  go_wp2
  go_loopw [7, 8] (fun vo i wr => ∃ k : Nat, i = .int .i64 (k : Int) ∧ k ≤ M.users.length ∧ Hid (wr.ownsRow W0.heap.size 3 1 vo (whoN M s e k).length (ints (whoN M s e k))) ∧ Hid (Below W0.heap.size W0 wr)) (fun _ i _ => M.users.length - (intOf i).toNat)
  case atStart => exact ⟨0, rfl, Nat.zero_le _, World.ownsRow_nil _ _ _ _, HB0.out⟩
  case round =>
    obtain ⟨k, rfl, hk, HO, HB3⟩ := hrel
    clear c0 c1 c2 c3 c4 c5 c6 c7 c8 c9 d0 d1 d2 d3 d4
    obtain ⟨⟨c0, c1, c2, c3, c4, c5, c6, c7, c8, c9⟩, d0, d1, d2, d3, d4⟩ := HF.out _ HB3.out
    have hwl := whoN_len M s e k
    obtain ⟨ad2, cap2, e2⟩ := owns_len HO.out
    subst e2
    rcases Nat.lt_or_ge k M.users.length with hlt | hge
    · have hkz := ltI hlt
      have HEX := Lib.hid (HEN.out wr (k : Int) HB3.out)
      obtain ⟨n, hn⟩ : ∃ n, (whoN M s e k).length = n := ⟨_, rfl⟩
      have HN := Lib.hid hn
      rw [hn] at HO hwl ⊢
      clear hn
      cases t : enabS M s e (k : Int)
      · have HM2 := Lib.hid (whoN_miss t)
        rw [t] at HEX
        clear t
        go_wp2_with fail
        refine (HEX.out).mono ?_
        rintro e4 W4 ⟨rfl, hb4⟩
        have HB4 := Lib.hid (HB3.out.trans (hb4.mono HB3.out.size))
        have HO4 := Lib.hid (owns_below HO.out hb4)
        clear c0 c1 c2 c3 c4 c5 c6 c7 c8 c9 d0 d1 d2 d3 d4 hb4
        obtain ⟨⟨c0, c1, c2, c3, c4, c5, c6, c7, c8, c9⟩, d0, d1, d2, d3, d4⟩ := HF.out _ HB4.out
        go_wp2
        go_roundw
        case rel => exact ⟨k + 1, by go_num, hlt, by rw [HM2.out, HN.out]; exact HO4.out, HB4.out⟩
        case measure => simp [intOf]; omega
      · have HM2 := Lib.hid (whoN_hit t)
        rw [t] at HEX
        clear t
        go_wp2_with fail
        refine (HEX.out).mono ?_
        rintro e4 W4 ⟨rfl, hb4⟩
        have HB4 := Lib.hid (HB3.out.trans (hb4.mono HB3.out.size))
        have HO4 := Lib.hid (owns_below HO.out hb4)
        clear c0 c1 c2 c3 c4 c5 c6 c7 c8 c9 d0 d1 d2 d3 d4 hb4
        obtain ⟨⟨c0, c1, c2, c3, c4, c5, c6, c7, c8, c9⟩, d0, d1, d2, d3, d4⟩ := HF.out _ HB4.out
        go_wp2_with (first
          | (at_builtin; refine app1 _ #[.int .i64 (k : Int)] rfl _ _ 42 rfl W0.heap.size 3 (.int .i64 0) 1 8 Tryz.underlying42 info_int rfl (by decide) (by decide) _ _ _ rfl (by exact HO4.out) rfl (by simp) rfl (by simp [Value.oneCell']) (by omega) HB4.out.size ?_; intro v5 w5 hown5 _ hbel
             obtain ⟨ad5, cap5, e5⟩ := owns_len hown5
             subst e5
             have HO5 := Lib.hid hown5
             have HB5 := Lib.hid (HB4.out.trans hbel)
             clear hown5 hbel)
          | fail)
        go_roundw
        case rel =>
          refine ⟨k + 1, by go_num, hlt, ?_, HB5.out⟩
          rw [HM2.out, List.length_append, List.length_singleton, HN.out, show ints (whoN M s e k ++ [(k : Int)]) = ints (whoN M s e k) ++ [.int .i64 (k : Int)] by simp [ints]]
          exact HO5.out
        case measure => simp [intOf]; omega
    · have hkn : k = M.users.length := by omega
      subst hkn
      have hge' := nltI (Nat.not_lt.2 hge)
      go_wp2
      go_ret
      exact ⟨_, rfl, owns_mono HO.out HB.out.size, HB.out.trans (HB3.out.mono HB.out.size)⟩

set_option maxRecDepth 100000 in
set_option maxHeartbeats 4000000 in
theorem ranyQ {w : World} {q : Mem} {M : Mdl} {r : Stm} {s : Sta} (hm : MdQ w q M) (hs : StQ w r s) (hk : SOK s) (hro : ∀ x ∈ M.roles, N64 x.2) (hu : M.users.length ≤ 100000) : Calls Tryz.prog 49 #[.agg (mdC q M), .agg (stC r s)] w (Ret w (.bool (anyS M s))) := by
  have hme := hm.events.max
  obtain ⟨W1, W0, h1, h2, HB, HM, HS, HF⟩ := boxMS hm hs
  have HOK := Lib.hid hk
  have HB0 : Hid (Below W0.heap.size W0 W0) := Below.refl _ _
  have HWH : Hid (∀ V (e : Int), Below W0.heap.size W0 V → Calls Tryz.prog 33 #[.agg (mdC q M), .agg (stC r s), .int .i64 e] V fun o w' => ∃ v', o = .returned v' ∧ w'.ownsRow V.heap.size 3 1 v' (whoN M s e M.users.length).length (ints (whoN M s e M.users.length)) ∧ Below V.heap.size V w') := fun V e hV => rwhoQ (HM.out.below hV) (HS.out.below hV) hk hro hu e
  unfold mdC stC at HWH
  clear hro
  unfold MdB StB at HF
  unfold mdC at h1
  unfold stC at h2
  unfold mdC stC
  clear hm hs hk
  obtain ⟨⟨c0, c1, c2, c3, c4, c5, c6, c7, c8, c9⟩, d0, d1, d2, d3, d4⟩ := HF.out _ HB0.out
  obtain ⟨R, hR⟩ : ∃ R, anyS M s = R := ⟨_, rfl⟩
  have HR := Lib.hid hR
  rw [hR]
  clear hR
  go_enter Tryz.func49, Tryz.ntmps49
  go_wp2
  go_loopw [5] (fun i wr => ∃ k : Nat, i = .int .i64 (k : Int) ∧ k ≤ M.events.length ∧ Hid (Below W0.heap.size W0 wr) ∧ Hid ((List.range k).any (anyU M s) = false)) (fun i _ => M.events.length - (intOf i).toNat)
  case atStart => exact ⟨0, rfl, Nat.zero_le _, HB0.out, rfl⟩
  case round =>
    obtain ⟨k, rfl, hk, HB3, HALL⟩ := hrel
    clear c0 c1 c2 c3 c4 c5 c6 c7 c8 c9 d0 d1 d2 d3 d4
    obtain ⟨⟨c0, c1, c2, c3, c4, c5, c6, c7, c8, c9⟩, d0, d1, d2, d3, d4⟩ := HF.out _ HB3.out
    rcases Nat.lt_or_ge k M.events.length with hlt | hge
    · have hkz := ltI hlt
      have HWX := Lib.hid (HWH.out wr (k : Int) HB3.out)
      have HAU := Lib.hid (anyU_who M s k)
      go_wp2_with fail
      refine HWX.out.mono ?_
      rintro o W4 ⟨v4, rfl, hown, hb4⟩
      obtain ⟨ad4, cap4, e4⟩ := owns_len hown
      subst e4
      have HB4 := Lib.hid (HB3.out.trans (hb4.mono HB3.out.size))
      clear c0 c1 c2 c3 c4 c5 c6 c7 c8 c9 d0 d1 d2 d3 d4 hb4 hown
      obtain ⟨n, hn⟩ : ∃ n, (whoN M s (k : Int) M.users.length).length = n := ⟨_, rfl⟩
      rw [hn] at HAU ⊢
      clear hn
      by_cases hn0 : 0 < n
      · have HRT : Hid (R = true) := by unfold Hid; rw [← HR.out]; exact anyR_hit hlt (by rw [HAU.out, decide_eq_true hn0])
        have hn1 : (0 : Int) < (n : Int) := by omega
        clear hn0
        go_wp2
        go_ret
        exact ⟨ret_bool (HRT.out.symm), HB.out.trans (HB4.out.mono HB.out.size)⟩
      · have HM2 := Lib.hid (anyR_miss HALL.out (by rw [HAU.out, decide_eq_false hn0]))
        have hn1 : ¬ (0 : Int) < (n : Int) := by omega
        clear hn0
        go_wp2
        go_roundw
        case rel => exact ⟨k + 1, by go_num, hlt, HB4.out, HM2.out⟩
        case measure => simp [intOf]; omega
    · have hkn : k = M.events.length := by omega
      have HRT : Hid (R = false) := by unfold Hid; rw [← HR.out, ← HALL.out, hkn]; rfl
      have hge' := nltI (Nat.not_lt.2 hge)
      clear hkn
      go_wp2
      go_ret
      exact ⟨ret_bool (HRT.out.symm), HB.out.trans (HB3.out.mono HB.out.size)⟩
end Go.Proofs.YtadjnfpomjopkaaGreat
