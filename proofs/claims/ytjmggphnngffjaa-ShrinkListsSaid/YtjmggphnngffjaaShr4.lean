/- Contract of warderref48.Shrink. -/
import Derived.Test.YtjmggphnngffjaaShr3
import Derived.Deep.RegionLaw
namespace Go.Proofs.Ytjmggphnngffjaa
open Go.RowKit

theorem wrapS2 {j c : Nat} (h : j < c) (hc : c ≤ 10000) : IntKind.i64.wrap ((j : Int) + 1) = (j : Int) + 1 := IntWalk.i64_in _ ⟨by omega, by omega⟩
theorem wrapS4 (j : Nat) : (0 : Int) ≤ (j : Int) + 1 := by omega
theorem wrapS3 (j : Nat) : (j : Int) ≤ (j : Int) + 1 := by omega
theorem subS {j n c : Nat} (h : j < n) (h2 : n ≤ c) (h3 : ¬ c = j + 1) : ¬ c - (j + 1) = 0 := by omega
theorem takeS {j : Nat} {C : List Sm} (h : j < C.length) (hc : C.length ≤ 10000) : (C.take j).length = j ∧ 0 + (C.take j).length ≤ 100000 := by
  have e : (C.take j).length = j := by rw [List.length_take, Nat.min_eq_left (Nat.le_of_lt h)]
  exact ⟨e, by omega⟩
theorem dropS {j c : Nat} {C : List Sm} (h : j < C.length) (hc : C.length ≤ 10000) (h2 : C.length ≤ c) (h3 : c ≤ maxLen) : j + (C.drop (j + 1)).length ≤ 100000 ∧ C.length - (j + 1) ≤ c - (j + 1) ∧ c - (j + 1) ≤ maxLen := by
  rw [List.length_drop]
  refine ⟨by omega, by omega, by omega⟩
theorem dropS0 {j : Nat} {C : List Sm} (h2 : C.length ≤ j + 1) : C.drop (j + 1) = [] ∧ C.length - (j + 1) = 0 := ⟨List.drop_eq_nil_of_le h2, by omega⟩
theorem wrapS {j c : Nat} (h : j < c) (hc : c ≤ 10000) : wrap64 ((j : Int) + 1) = (j : Int) + 1 ∧ ((j : Int) + 1).toNat = j + 1 ∧ (j : Int) + 1 ≤ (c : Int) := by
  refine ⟨by unfold wrap64; omega, by omega, by omega⟩

set_option maxRecDepth 100000 in
set_option maxHeartbeats 4000000 in
theorem rshrink_any {w : World} {v : Value} {L : List Sm} (h : SmIn w v L) (h1 : ∀ y ∈ L, SmOne y) (hl : L.length ≤ 10000) (kind n : Int) :
    Calls Try.prog 12 #[v, .int .i64 kind, .int .i64 n] w fun e w' => ∃ v', e = .returned v' ∧ SmIn w' v' (shrinkS (fewB kind n) L) ∧ Below w.heap.size w w' := by
  have hb0 : Below w.heap.size w (w.alloc (.cells #[] 31)) := (Below.refl _ w).alloc (Nat.le_refl _) _
  have own0 : (w.alloc (.cells #[] 31)).ownsRow w.heap.size 31 12 (.slice (some ⟨w.heap.size, 0, none⟩) 0 0) 0 [] := World.ownsRow_lit w #[] 0 (Nat.le_refl _) (Nat.zero_le _) rfl
  have HI0 := Lib.hid (h.keep hb0)
  have HB0 := Lib.hid hb0
  have HOWN := Lib.hid own0
  have HF : Hid (∀ (W : World) (u : Value) (C : List Sm), SmIn W u C → C.length ≤ 10000 → Calls Try.prog 10 #[u, .int .i64 kind, .int .i64 n] W fun e w' => e = .returned (.bool (fewB kind n C)) ∧ w' = W) := fun W u C hu hc => few_any hu kind n (by omega)
  obtain ⟨P, hP⟩ : ∃ P : List Sm → Bool, fewB kind n = P := ⟨_, rfl⟩
  rw [hP] at HF ⊢
  obtain ⟨R, hRS⟩ : ∃ R, shrinkS P L = R := ⟨_, rfl⟩
  have HRS := Lib.hid hRS
  rw [hRS]
  have H1 := Lib.hid h1
  obtain ⟨ad, cap, hv⟩ := h.len
  subst hv
  clear h h1 hb0 own0 hRS hP
  go_enter Try.func12, Try.ntmps12
  go_wp2_with (first
    | (at_builtin; refine appS _ rfl _ _ rfl w.heap.size _ 0 [] rfl (by exact HOWN.out) _ L rfl HI0.out H1.out (by omega) (by simp) ?_
       intro v1 w1 hown1 hb1
       rw [Nat.zero_add, List.nil_append] at hown1
       obtain ⟨ad1, cap1, hv1⟩ := owns_len hown1
       subst hv1
       have HB1 := Lib.hid (HB0.out.trans hb1)
       have HI1 := Lib.hid (SmIn.of_row hown1)
       clear hown1 hb1)
    | fail)
  refine (HF.out _ _ _ HI1.out hl).mono ?_
  rintro e w2 ⟨rfl, hw⟩
  rw [hw]; clear hw w2
  obtain ⟨b, hb⟩ : ∃ b, P L = b := ⟨_, rfl⟩
  have HPL := Lib.hid hb
  rw [hb]
  clear hb
  cases b
  · have HS : Hid (R = L) := by unfold Hid; rw [← HRS.out]; unfold shrinkS; rw [HPL.out]; rfl
    go_wp2
    go_ret
    exact ⟨_, rfl, by rw [HS.out]; exact HI1.out, HB1.out⟩
  · have HR0 : Hid (runS P (L.length + 1) L = R) := by unfold Hid; rw [← HRS.out]; unfold shrinkS; rw [HPL.out]; rfl
    go_wp2
    go_loopw [7, 8] (fun vo bo wr => ∃ (M : List Sm) (b : Bool) (ad : Option Addr) (cap : Nat), vo = .slice ad M.length cap ∧ bo = .bool b ∧ M.length ≤ 10000 ∧ Hid (SmIn wr vo M ∧ (∀ y ∈ M, y ∈ L) ∧ Below w.heap.size w wr ∧ ((b = true ∧ ∃ k, M.length < k ∧ runS P k M = R) ∨ (b = false ∧ R = M)))) (fun vo bo _ => msr2 vo bo)
    case atStart => exact ⟨L, true, _, _, rfl, rfl, hl, HI1.out, fun y hy => hy, HB1.out, .inl ⟨rfl, L.length + 1, by omega, HR0.out⟩⟩
    case round =>
      obtain ⟨M, b, adM, capM, rfl, rfl, hml, HALL⟩ := hrel
      obtain ⟨hM, hmem, hB, hcase⟩ := HALL.out
      cases b
      · have HX : Hid (R = M) := by
          rcases hcase with ⟨h, _⟩ | ⟨_, h⟩
          · cases h
          · exact h
        have HM := Lib.hid (And.intro hM hB)
        clear hM hmem hB hcase HALL
        go_wp2
        go_ret
        exact ⟨_, rfl, by rw [HX.out]; exact HM.out.1, HM.out.2⟩
      · obtain ⟨kk, hkk, hrun⟩ : ∃ k, M.length < k ∧ runS P k M = R := by
          rcases hcase with ⟨_, h⟩ | ⟨h, _⟩
          · exact h
          · cases h
        obtain ⟨M2, hM2⟩ : ∃ M2, passS P M.length M = M2 := ⟨_, rfl⟩
        have HM := Lib.hid (And.intro hM (And.intro hmem hB))
        have HP2 := Lib.hid hM2
        have HRUN := Lib.hid (And.intro hkk hrun)
        have hnm : -1 ≤ (M.length : Int) - 1 := by omega
        obtain ⟨wo, hwo⟩ : ∃ w', wr = w' := ⟨_, rfl⟩
        rw [hwo] at HM ⊢
        clear hM hmem hB hcase HALL hM2 hkk hrun hwo
        go_wp2
        go_loopw [7, 8, 9] (fun vo bo i wr => ∃ (C : List Sm) (j : Int) (b : Bool) (ad : Option Addr) (cap : Nat), vo = .slice ad C.length cap ∧ bo = .bool b ∧ i = .int .i64 j ∧ -1 ≤ j ∧ j < 10000 ∧ j < (C.length : Int) ∧ C.length ≤ 10000 ∧ Hid (SmIn wr vo C ∧ (∀ y ∈ C, y ∈ L) ∧ Below w.heap.size w wr ∧ passS P (j + 1).toNat C = M2 ∧ C.length ≤ M.length ∧ (b = true → C.length < M.length) ∧ (b = false → C.length = M.length))) (fun _ _ i _ => (intOf i + 1).toNat)
        case atStart => exact ⟨M, _, false, _, _, rfl, rfl, rfl, hnm, by omega, by omega, hml, HM.out.1, HM.out.2.1, HM.out.2.2, by rw [show ((M.length : Int) - 1 + 1).toNat = M.length by omega]; exact HP2.out, Nat.le_refl _, fun h => (by cases h), fun _ => rfl⟩
        case round =>
          obtain ⟨C, j, b, adC, capC, rfl, rfl, rfl, hj0, hj1, hjc, hcl, HALL⟩ := hrel
          obtain ⟨hC, hmem, hB, hpass, hCM, hbt, hbf⟩ := HALL.out
          by_cases hneg : j < 0
          · have hj : j = -1 := by omega
            subst hj
            have HE : Hid (C = M2) := hpass
            have HCC := Lib.hid (And.intro hC (And.intro hmem (And.intro hB (And.intro hbt hbf))))
            clear hC hmem hB hpass hCM HALL hneg hj0 hj1 hjc hbt hbf
            go_wp2
            go_roundw
            case rel =>
              refine ⟨C, b, adC, capC, rfl, rfl, hcl, HCC.out.1, HCC.out.2.1, HCC.out.2.2.1, ?_⟩
              cases b
              · refine .inr ⟨rfl, ?_⟩
                have he := HCC.out.2.2.2.2 rfl
                have hp2 : (passS P M.length M).length = M.length := by rw [HP2.out, ← HE.out]; exact he
                rw [runS_stop HRUN.out.1 HRUN.out.2 hp2, HE.out, ← HP2.out, passS_same P M.length M (Nat.le_refl _) hp2]
              · refine .inl ⟨rfl, ?_⟩
                have he := HCC.out.2.2.2.1 rfl
                have hp2 : (passS P M.length M).length ≠ M.length := by rw [HP2.out, ← HE.out]; omega
                have hgo := runS_go HRUN.out.1 HRUN.out.2 hp2
                rw [HP2.out, ← HE.out] at hgo
                exact hgo
            case measure =>
              cases b
              · show 0 < M.length + 1; omega
              · show C.length + 1 < M.length + 1
                have := HCC.out.2.2.2.1 rfl; omega
          · obtain ⟨jn, rfl⟩ : ∃ jn : Nat, j = (jn : Int) := ⟨j.toNat, by omega⟩
            have hjn : jn < C.length := by omega
            have hll := lessS_len hjn
            have HNX : Hid ((P (lessS jn C) = true → passS P jn (lessS jn C) = M2) ∧ (P (lessS jn C) = false → passS P jn C = M2)) := by
              rw [show ((jn : Int) + 1).toNat = jn + 1 by omega] at hpass
              rw [passS] at hpass
              refine ⟨fun h => by rw [if_pos h] at hpass; exact hpass, fun h => by rw [if_neg (by rw [h]; decide)] at hpass; exact hpass⟩
            have HLM : Hid (∀ y ∈ lessS jn C, y ∈ L) := fun y hy => hmem y (lessS_mem hy)
            have HLE : Hid (jn + (C.drop (jn + 1)).length = (lessS jn C).length ∧ C.take jn ++ C.drop (jn + 1) = lessS jn C) := by
              refine ⟨?_, rfl⟩
              unfold lessS
              rw [List.length_append, List.length_take, Nat.min_eq_left (Nat.le_of_lt hjn)]
            obtain ⟨D, hD⟩ : ∃ D, lessS jn C = D := ⟨_, rfl⟩
            rw [hD] at hll HNX HLM HLE
            clear hD
            have hjz : (0 : Int) ≤ (jn : Int) := by omega
            obtain ⟨x, hx⟩ : ∃ x, C[jn]? = some x := ⟨_, List.getElem?_eq_getElem hjn⟩
            obtain ⟨g, off, cap', hv', hgl, -⟩ := hC.at hx
            simp only [Value.slice.injEq, true_and] at hv'
            obtain ⟨rfl, rfl⟩ := hv'
            have hcap : C.length ≤ capC ∧ capC ≤ maxLen := by
              obtain ⟨_, _, he, hz, _⟩ := hC
              simp only [Value.slice.injEq] at he
              rw [he.2.2]; exact hz.2
            obtain ⟨hcl2, hcm⟩ := hcap
            have hcm' : capC ≤ 9223372036854775807 := by unfold maxLen at hcm; omega
            have hbe : Below wr.heap.size wr (wr.alloc (.cells #[] 31)) := (Below.refl _ _).alloc (Nat.le_refl _) _
            have HBE := Lib.hid hbe
            have HMC := Lib.hid hmem
            have HO1 := Lib.hid (show (wr.alloc (.cells #[] 31)).ownsRow wr.heap.size 31 12 (.slice (some ⟨wr.heap.size, 0, none⟩) 0 0) 0 [] from World.ownsRow_lit wr #[] 0 (Nat.le_refl _) (Nat.zero_le _) rfl)
            have HT1 := Lib.hid ((hC.keep hbe).take (show jn ≤ C.length by omega) capC (by omega) (by omega))
            have HCC := Lib.hid (And.intro hC (And.intro hmem (And.intro hB (And.intro hCM (And.intro hbt hbf)))))
            obtain ⟨hlt1, ht2⟩ := takeS hjn hcl
            have HT2 := Lib.hid ht2
            have HDS := Lib.hid (dropS hjn hcl hcl2 hcm)
            clear ht2
            obtain ⟨hw1, hw2, hiz1⟩ := wrapS hjn hcl
            have hw1' := wrapS2 hjn hcl
            have hjj : (jn : Int) ≤ (jn : Int) + 1 := wrapS3 jn
            have h0j : (0 : Int) ≤ (jn : Int) + 1 := wrapS4 jn
            have hic : jn ≤ capC := Nat.le_trans (Nat.le_of_lt hjn) hcl2
            clear hC hmem hB hpass hCM HALL hneg hj0 hbt hbf hx hgl hbe
            go_upto_region 10 with fail
            go_cut [10] (fun v10 wx => ∃ (ad4 : Option Addr) (cap4 : Nat), v10 = .slice ad4 D.length cap4 ∧ SmIn wx v10 D ∧ Below wr.heap.size wr wx)
            case first =>
              by_cases hci : capC = jn + 1
              · subst hci
                go_region_law (first
                  | (refine stepS (w := (wr.alloc (.cells #[] 31)).drew) (by rfl) (.tmp 28) (.tmp 31) (by rfl) wr.heap.size (.slice (some ⟨wr.heap.size, 0, none⟩) 0 0) 0 [] (by simp [Act.eval]) HO1.out (.slice (some ⟨g, off, none⟩) jn (jn + 1)) (C.take jn) (by simp [Act.eval]) HT1.out (fun y hy => H1.out y (HMC.out y (List.mem_of_mem_take hy))) HT2.out (by exact HBE.out.size) ?_
                     intro v2 w2 hown2 hb2
                     rw [Nat.zero_add, List.nil_append, hlt1] at hown2
                     obtain ⟨ad2, cap2, hv2⟩ := owns_len hown2
                     subst hv2
                     have HO2 := Lib.hid hown2
                     have HB2 := Lib.hid (show Below wr.heap.size wr w2 from HBE.out.drew.trans hb2)
                     clear hown2 hb2)
                  | (refine stepS (w := w2) (by rfl) (.tmp 32) (.tmp 36) (by rfl) wr.heap.size (.slice ad2 jn cap2) jn (smFlat (C.take jn)) (by simp [Act.eval]) HO2.out (.slice (some ⟨g, off, none⟩) 0 0) (C.drop (jn + 1)) (by simp [Act.eval]) (by exact (SmIn.zero (dropS0 hcl2).1 rfl)) (fun y hy => H1.out y (HMC.out y (List.mem_of_mem_drop hy))) HDS.out.1 HB2.out.size ?_
                     intro v3 w3 hown3 hb3
                     rw [← smFlat_app, HLE.out.1, HLE.out.2] at hown3
                     obtain ⟨ad3, cap3, hv3⟩ := owns_len hown3
                     subst hv3
                     have HO3 := Lib.hid hown3
                     have HB3 := Lib.hid (show Below wr.heap.size wr w3 from HB2.out.trans hb3)
                     clear hown3 hb3))
                all_goals
                  go_wp2_with fail
                  go_meet
                  exact ⟨_, _, rfl, SmIn.of_row HO3.out, HB3.out⟩
              · have hci' := subS hjn hcl2 hci
                go_region_law (first
                  | (refine stepS (w := (wr.alloc (.cells #[] 31)).drew) (by rfl) (.tmp 28) (.tmp 31) (by rfl) wr.heap.size (.slice (some ⟨wr.heap.size, 0, none⟩) 0 0) 0 [] (by simp [Act.eval]) HO1.out (.slice (some ⟨g, off, none⟩) jn capC) (C.take jn) (by simp [Act.eval]) HT1.out (fun y hy => H1.out y (HMC.out y (List.mem_of_mem_take hy))) HT2.out (by exact HBE.out.size) ?_
                     intro v2 w2 hown2 hb2
                     rw [Nat.zero_add, List.nil_append, hlt1] at hown2
                     obtain ⟨ad2, cap2, hv2⟩ := owns_len hown2
                     subst hv2
                     have HO2 := Lib.hid hown2
                     have HB2 := Lib.hid (show Below wr.heap.size wr w2 from HBE.out.drew.trans hb2)
                     clear hown2 hb2)
                  | (refine stepS (w := w2) (by rfl) (.tmp 32) (.tmp 36) (by rfl) wr.heap.size (.slice ad2 jn cap2) jn (smFlat (C.take jn)) (by simp [Act.eval]) HO2.out (.slice (some ⟨g, off + (jn + 1) * 12, none⟩) (C.length - (jn + 1)) (capC - (jn + 1))) (C.drop (jn + 1)) (by simp [Act.eval]) (by exact ((HCC.out.1.keep HB2.out).drop _ HDS.out.2.1 HDS.out.2.2)) (fun y hy => H1.out y (HMC.out y (List.mem_of_mem_drop hy))) HDS.out.1 HB2.out.size ?_
                     intro v3 w3 hown3 hb3
                     rw [← smFlat_app, HLE.out.1, HLE.out.2] at hown3
                     obtain ⟨ad3, cap3, hv3⟩ := owns_len hown3
                     subst hv3
                     have HO3 := Lib.hid hown3
                     have HB3 := Lib.hid (show Below wr.heap.size wr w3 from HB2.out.trans hb3)
                     clear hown3 hb3))
                all_goals
                  go_wp2_with fail
                  go_meet
                  exact ⟨_, _, rfl, SmIn.of_row HO3.out, HB3.out⟩
            case rest =>
              obtain ⟨ad4, cap4, rfl, hi4, hb4⟩ := hcut
              have HI4 := Lib.hid hi4
              have HB4 := Lib.hid (HCC.out.2.2.1.trans (hb4.mono HCC.out.2.2.1.size))
              have HC4 := Lib.hid (HCC.out.1.keep hb4)
              have hdl : D.length ≤ 10000 := by clear hlt1; omega
              clear hi4 hb4 hlt1 hw1 hw1' hjj h0j hw2 hiz1 hic hcm hcm' hcl2
              go_wp2_with fail
              refine (HF.out _ _ _ HI4.out hdl).mono ?_
              rintro e w6 ⟨rfl, hw⟩
              rw [hw]; clear hw w6
              obtain ⟨b2, hb2⟩ : ∃ b2, P D = b2 := ⟨_, rfl⟩
              have HPD := Lib.hid hb2
              rw [hb2]
              clear hb2
              cases b2
              · have HN := Lib.hid (HNX.out.2 HPD.out)
                go_wp2
                go_roundw
                case rel => exact ⟨C, (jn : Int) - 1, b, _, _, rfl, rfl, by go_num, by omega, by omega, by omega, hcl, HC4.out, HCC.out.2.1, HB4.out, by rw [show ((jn : Int) - 1 + 1).toNat = jn by omega]; exact HN.out, HCC.out.2.2.2.1, HCC.out.2.2.2.2.1, HCC.out.2.2.2.2.2⟩
                case measure => simp [intOf]
              · have HN := Lib.hid (HNX.out.1 HPD.out)
                go_wp2
                go_roundw
                case rel => exact ⟨D, (jn : Int) - 1, true, _, _, rfl, rfl, by go_num, by omega, by omega, by omega, by omega, HI4.out, HLM.out, HB4.out, by rw [show ((jn : Int) - 1 + 1).toNat = jn by omega]; exact HN.out, by have := HCC.out.2.2.2.1; omega, fun _ => by have := HCC.out.2.2.2.1; omega, fun h => by cases h⟩
                case measure => simp [intOf]

end Go.Proofs.Ytjmggphnngffjaa
