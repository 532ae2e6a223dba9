/- The laws of chapter 23: DropLeaves. -/
import Derived.Test.YtbhmimegcnfjcaaDropDefs
import Derived.Deep.RegionHeld3
import Derived.Deep.DeepCutAuto
namespace Go.Proofs.Ytbhmimegcnfjcaa
open Go.RowKit

set_option maxRecDepth 100000 in
set_option maxHeartbeats 4000000 in
theorem dropLeaves_any (v0 v1 v2 : Value) (vals consts l : List Int) (w : World) (h0 : Reads w v0 (ints vals)) (h1 : Reads w v1 (ints consts)) (h2 : Reads w v2 (ints l)) (hi : ∀ x ∈ vals ++ consts, -9223372036854775808 ≤ x ∧ x ≤ 9223372036854775807) :
    Calls Try.prog 12 #[v0, v1, v2] w fun e w' => e = .returned (.bool true) ∧ Below w.heap.size w w' := by
  obtain ⟨ad0, cap0, e0, -⟩ := h0.len
  obtain ⟨ad1, cap1, e1, -⟩ := h1.len
  obtain ⟨ad2, cap2, e2, -⟩ := h2.len
  rw [ints_len] at e0 e1 e2
  obtain ⟨n0, hn0⟩ : ∃ n, vals.length = n := ⟨_, rfl⟩
  obtain ⟨n1, hn1⟩ : ∃ n, consts.length = n := ⟨_, rfl⟩
  obtain ⟨n2, hn2⟩ : ∃ n, l.length = n := ⟨_, rfl⟩
  rw [hn0] at e0; rw [hn1] at e1; rw [hn2] at e2
  subst e0; subst e1; subst e2
  have HN0 := Lib.hid hn0; have HN1 := Lib.hid hn1; have HN2 := Lib.hid hn2
  have H0 := Lib.hid h0; have H1 := Lib.hid h1; have H2 := Lib.hid h2; have HI := Lib.hid hi
  clear hn0 hn1 hn2 h0 h1 h2 hi
  have hcase : (10 < n0) ∨ (n0 ≤ 10 ∧ 10 < n1) ∨ (n0 ≤ 10 ∧ n1 ≤ 10 ∧ 10 < n2) ∨ (n0 ≤ 10 ∧ n1 ≤ 10 ∧ n2 ≤ 10) := by omega
  rcases hcase with k0 | ⟨k0, k1⟩ | ⟨k0, k1, k2⟩ | ⟨k0, k1, k2⟩
  · go_enter Try.func12, Try.ntmps12
    go_wp2_with fail
    refine (awake23 _).mono ?_
    rintro e w7 ⟨rfl, hb7⟩
    go_wp2
    go_ret
    exact ⟨rfl, hb7⟩
  · go_enter Try.func12, Try.ntmps12
    go_wp2_with fail
    refine (awake23 _).mono ?_
    rintro e w7 ⟨rfl, hb7⟩
    go_wp2
    go_ret
    exact ⟨rfl, hb7⟩
  · go_enter Try.func12, Try.ntmps12
    go_wp2_with fail
    refine (awake23 _).mono ?_
    rintro e w7 ⟨rfl, hb7⟩
    go_wp2
    go_ret
    exact ⟨rfl, hb7⟩
  · go_enter Try.func12, Try.ntmps12
    go_wp2
    go_loopw [7, 8, 9, 10] (fun r _ _ _ wr => ∃ k : Nat, r = .int .i64 k ∧ k ≤ 5 ∧ Hid (Below w.heap.size w wr)) (fun r _ _ _ _ => 5 - (intOf r).toNat)
    case atStart => exact ⟨0, rfl, Nat.zero_le _, Below.refl _ _⟩
    case round =>
      obtain ⟨k, rfl, hk, HB⟩ := hrel
      by_cases hlt : k < 5
      · have p1 : (k : Int) < 5 := by omega
        have R0 := Lib.hid (H0.out.below (Nat.le_refl _) HB.out)
        have R1 := Lib.hid (H1.out.below (Nat.le_refl _) HB.out)
        have R2 := Lib.hid (H2.out.below (Nat.le_refl _) HB.out)
        have hsw := HB.out.size
        go_wp2_with fail
        refine (rof_any _ _ vals consts k wr R0.out R1.out (by rw [HN0.out]; omega) (by rw [HN1.out]; omega) HI.out).mono ?_
        rintro e w1 ⟨x1, x2, rfl, z1, hb1⟩
        obtain ⟨Z, hZ⟩ : ∃ Z, ofZ vals consts k = Z := ⟨_, rfl⟩
        change ZoneAt w1 _ x1 x2 (ofZ vals consts k).1 (ofZ vals consts k).2 at z1
        have hzl := ofZ_len vals consts k
        rw [hZ] at z1 hzl
        have HZ := Lib.hid hZ
        rw [HN0.out, HN1.out] at hzl
        obtain ⟨a1, c1, a2, c2, e1, e2⟩ := zone_shape z1
        obtain ⟨m1, hm1⟩ : ∃ m, Z.1.length = m := ⟨_, rfl⟩
        obtain ⟨m2, hm2⟩ : ∃ m, Z.2.length = m := ⟨_, rfl⟩
        rw [hm1] at e1; rw [hm2] at e2
        subst e1; subst e2
        have HM1 := Lib.hid hm1; have HM2 := Lib.hid hm2
        have hal := (Below.refl w1.heap.size w1).alloc (Nat.le_refl _) (.cells #[.slice a1 m1 c1, .slice a2 m2 c2] 55)
        have Z1 := Lib.hid (z1.below hal)
        have HBW := Lib.hid ((HB.out.trans (hb1.mono HB.out.size)).trans (hal.mono (Nat.le_trans HB.out.size hb1.size)))
        have HBR := Lib.hid (hb1.trans (hal.mono hb1.size))
        clear hm1 hm2 hal z1 hb1 hZ
        have hcz : Z.1.length ≤ 65536 ∧ Z.2.length ≤ 65536 := by omega
        have HCZ := Lib.hid hcz
        clear hcz hzl
        go_wp2_with fail
        refine (dropAll_any wr.heap.size _ _ _ Z.1 Z.2 l k _ Z1.out (R2.out.below (Nat.le_refl _) HBR.out) HCZ.out.1 HCZ.out.2 (by rw [HN2.out]; omega)).mono ?_
        rintro e w2 ⟨g1, q1, g2, q2, rfl, z2, hb2⟩
        obtain ⟨Y, hY⟩ : ∃ Y, allZ k l (Z.1, Z.2) = Y := ⟨_, rfl⟩
        have hYs : someZ vals (inZ n0 l) consts k = Y := by
          rw [← hY, ← HZ.out]
          have := drop_some vals consts l k (by rw [HN0.out]; omega)
          rw [HN0.out] at this
          exact (Eq.trans (by unfold ofZ; rw [HN0.out]) (Eq.trans this (by unfold someZ; rw [HN0.out]))).symm
        rw [hY] at z2 ⊢
        have hyl := someZ_len vals (inZ n0 l) consts k
        rw [hYs, HN0.out, HN1.out] at hyl
        obtain ⟨N1, hN1'⟩ : ∃ m, Y.1.length = m := ⟨_, rfl⟩
        obtain ⟨N2, hN2'⟩ : ∃ m, Y.2.length = m := ⟨_, rfl⟩
        rw [hN1', hN2'] at z2 ⊢
        have HY := Lib.hid hYs
        have HCY := Lib.hid (show Y.1.length ≤ 65536 ∧ Y.2.length ≤ 65536 by omega)
        have hal := (Below.refl w2.heap.size w2).alloc (Nat.le_refl _) (.cells #[.slice (some ⟨g1, 0, none⟩) N1 q1, .slice (some ⟨g2, 0, none⟩) N2 q2] 55)
        have Z2 := Lib.hid (z2.below hal)
        have X9 := Lib.hid (Box2.new w2 (.slice (some ⟨g1, 0, none⟩) N1 q1) (.slice (some ⟨g2, 0, none⟩) N2 q2))
        have HBW2 := Lib.hid ((HBW.out.trans (hb2.mono HBW.out.size)).trans (hal.mono (Nat.le_trans HBW.out.size hb2.size)))
        have HBR2 := Lib.hid ((HBR.out.trans (hb2.mono HBR.out.size)).trans (hal.mono (Nat.le_trans HBR.out.size hb2.size)))
        clear hY hYs hyl hN1' hN2' z2 hal hb2 Z1 HBW HBR
        go_wp2_with fail
        refine (rin_any n0 _ l _ (R2.out.below (Nat.le_refl _) HBR2.out) (by omega)).mono ?_
        rintro e w3 ⟨vi, rfl, oi, hb3⟩
        have hlt9 : w2.heap.size < w3.heap.size := Nat.lt_of_lt_of_le X9.out.lt hb3.size
        have X93 := (hb3.block _ X9.out.lt).trans X9.out
        have z23 := Z2.out.below hb3
        have HBW3 := Lib.hid (HBW2.out.trans (hb3.mono HBW2.out.size))
        have hr0 := R0.out.below (Nat.le_refl _) (HBR2.out.trans (hb3.mono HBR2.out.size))
        have hr1 := R1.out.below (Nat.le_refl _) (HBR2.out.trans (hb3.mono HBR2.out.size))
        have hri := Reads.of_owns oi
        have HRD : Hid (∀ W, Below w3.heap.size w3 W → Reads W (.slice ad0 n0 cap0) (ints vals) ∧ Reads W vi (bools (inZ n0 l)) ∧ Reads W (.slice ad1 n1 cap1) (ints consts)) :=
          fun W hW => ⟨hr0.below (Nat.le_refl _) hW, hri.below (Nat.le_refl _) hW, hr1.below (Nat.le_refl _) hW⟩
        have HZY : Hid (∀ W, Below w3.heap.size w3 W → ZoneAt W _ (.slice (some ⟨g1, 0, none⟩) N1 q1) (.slice (some ⟨g2, 0, none⟩) N2 q2) Y.1 Y.2) := fun W hW => z23.below hW
        have HX : Hid (∀ W, Below w3.heap.size w3 W → W.cell? ⟨w2.heap.size, 0, none⟩ = some (.slice (some ⟨g1, 0, none⟩) N1 q1) ∧ W.cell? ⟨w2.heap.size, 1, none⟩ = some (.slice (some ⟨g2, 0, none⟩) N2 q2)) :=
          fun W hW => by
            have : Box2 W w2.heap.size _ _ := (hW.block _ hlt9).trans X93
            exact ⟨this.c0, this.c1⟩
        have HIN : Hid ((inZ n0 l).length = vals.length) := by unfold Hid; rw [inZ_len, HN0.out]
        have hL0 : vals.length ≤ 31 := by rw [HN0.out]; omega
        have hL1 : consts.length ≤ 31 := by rw [HN1.out]; omega
        have HL01 := Lib.hid (And.intro hL0 hL1)
        clear hb3 oi hr0 hr1 hri z23 X93 X9 Z2 HBW2 HBR2 R0 R1 R2 hL0 hL1
        have hbz : Below w3.heap.size w3 w3 := Below.refl _ _
        have s9 := HX.out w3 hbz
        obtain ⟨s90, s91⟩ := s9
        have hbz : Below w3.heap.size w3 w3.drew := (Below.refl _ _).drew
        go_wp2_with fail
        go_cut [66] (fun c wx => c = .bool false ∧ Hid (Below w3.heap.size w3 wx))
        case first =>
          by_cases hk0 : k = 0
          · subst hk0
            rw [show ((0 : Nat) : Int) = 0 from rfl] at *
            refine wp_region_held_drew (S := (fun w' => w'.cell? ⟨w2.heap.size, 0, none⟩ = some (.slice (some ⟨g1, 0, none⟩) N1 q1) ∧ w'.cell? ⟨w2.heap.size, 1, none⟩ = some (.slice (some ⟨g2, 0, none⟩) N2 q2))) (by kernel_rfl) ?_ (fun hHeld => ?_)
            · exact HX.out _ hbz
            refine wpAnyH_take (i := 1) (v := ?v1) rfl (by kernel_rfl) (by kernel_rfl) (by kernel_rfl) (fun _ _ _ h => h) (Or.inl ⟨by rfl, ?y1⟩) (by assumption) ?r1
            case y1 => ((intro w hSw; (try dsimp only at hSw); go_simp) <;> (try with_reducible rfl))
            (try go_simp)
            refine wpAnyH_take (i := 2) (v := ?v2) rfl (by kernel_rfl) (by kernel_rfl) (by kernel_rfl) (fun _ _ _ h => h) (Or.inl ⟨by rfl, ?y2⟩) (by assumption) ?r2
            case y2 => ((intro w hSw; (try dsimp only at hSw); go_simp) <;> (try with_reducible rfl))
            (try go_simp)
            refine wpAnyH_take (i := 3) (v := ?v3) rfl (by kernel_rfl) (by kernel_rfl) (by kernel_rfl) (fun _ _ _ h => h) (Or.inl ⟨by rfl, ?y3⟩) (by assumption) ?r3
            case y3 => ((intro w hSw; (try dsimp only at hSw); go_simp) <;> (try with_reducible rfl))
            (try go_simp)
            refine wpAnyH_take (i := 4) (v := ?v4) rfl (by kernel_rfl) (by kernel_rfl) (by kernel_rfl) (fun _ _ _ h => h) (Or.inl ⟨by rfl, ?y4⟩) (by assumption) ?r4
            case y4 => ((intro w hSw; (try dsimp only at hSw); go_simp) <;> (try with_reducible rfl))
            (try go_simp)
            refine wpAnyH_take (i := 0) (v := ?v0) rfl (by kernel_rfl) (by kernel_rfl) (by kernel_rfl) (fun _ _ _ h => h) (Or.inl ⟨by rfl, ?y0⟩) (by assumption) ?r0
            case y0 => ((intro w hSw; (try dsimp only at hSw); go_simp) <;> (try with_reducible rfl))
            (try go_simp)
            refine wpAnyH_ready (rs := [5]) (by kernel_rfl) (by simp) ?_
            refine AllReadyH.cons rfl (fun K hK => ?_) AllReadyH.nil
            go_simp
            refine (rsome_any _ _ _ vals (inZ n0 l) consts 0 _ (HRD.out _ hbz).1 (HRD.out _ hbz).2.1 (HRD.out _ hbz).2.2 HIN.out HL01.out.1 HL01.out.2 HI.out).mono ?_
            rintro e w4 ⟨x41, x42, rfl, zs, hbs⟩
            change ZoneAt w4 _ _ _ (someZ vals (inZ n0 l) consts 0).1 (someZ vals (inZ n0 l) consts 0).2 at zs
            rw [HY.out] at zs
            have hbz := hbz.trans (hbs.mono hbz.size)
            clear hbs
            refine hK.out _ _ ?_ (fun hHeld => ?_)
            · exact HX.out _ hbz
            clear hK K
            (try go_simp)
            refine wpAnyH_ready (rs := [6]) (by kernel_rfl) (by simp) ?_
            refine AllReadyH.cons rfl (fun K hK => ?_) AllReadyH.nil
            go_simp
            refine (zsame_eq _ _ _ _ _ _ Y.1 Y.2 _ (HZY.out _ hbz) zs HCY.out.1 HCY.out.2).mono ?_
            rintro e w5 ⟨rfl, hbs⟩
            have hbz := hbz.trans (hbs.mono hbz.size)
            clear hbs zs
            refine hK.out _ _ ?_ (fun hHeld => ?_)
            · exact HX.out _ hbz
            clear hK K
            (try go_simp)
            refine wpAnyH_take (i := 7) (v := ?v7) rfl (by kernel_rfl) (by kernel_rfl) (by kernel_rfl) (fun _ _ _ h => h) (Or.inl ⟨by rfl, ?y7⟩) (by assumption) ?r7
            case y7 => ((intro w hSw; (try dsimp only at hSw); go_simp) <;> (try with_reducible rfl))
            (try go_simp)
            refine wpAnyH_take (i := 8) (v := ?v8) rfl (by kernel_rfl) (by kernel_rfl) (by kernel_rfl) (fun _ _ _ h => h) (Or.inl ⟨by rfl, ?y8⟩) (by assumption) ?r8
            case y8 => ((intro w hSw; (try dsimp only at hSw); go_simp) <;> (try with_reducible rfl))
            (try go_simp)
            refine wpAnyH_take (i := 9) (v := ?v9) rfl (by kernel_rfl) (by kernel_rfl) (by kernel_rfl) (fun _ _ _ h => h) (Or.inl ⟨by rfl, ?y9⟩) (by assumption) ?r9
            case y9 => ((intro w hSw; (try dsimp only at hSw); go_simp) <;> (try with_reducible rfl))
            (try go_simp)
            refine wpAnyH_take (i := 10) (v := ?v10) rfl (by kernel_rfl) (by kernel_rfl) (by kernel_rfl) (fun _ _ _ h => h) (Or.inl ⟨by rfl, ?y10⟩) (by assumption) ?r10
            case y10 => ((intro w hSw; (try dsimp only at hSw); go_simp) <;> (try with_reducible rfl))
            (try go_simp)
            refine wpAnyH_take (i := 11) (v := ?v11) rfl (by kernel_rfl) (by kernel_rfl) (by kernel_rfl) (fun _ _ _ h => h) (Or.inl ⟨by rfl, ?y11⟩) (by assumption) ?r11
            case y11 => ((intro w hSw; (try dsimp only at hSw); go_simp) <;> (try with_reducible rfl))
            (try go_simp)
            refine wpAnyH_take (i := 12) (v := undef) rfl (by kernel_rfl) (by kernel_rfl) (by kernel_rfl) (fun _ _ _ h => h) (Or.inr ⟨by rfl, rfl⟩) (by assumption) ?_
            (try go_simp)
            refine wpAnyH_take (i := 13) (v := undef) rfl (by kernel_rfl) (by kernel_rfl) (by kernel_rfl) (fun _ _ _ h => h) (Or.inr ⟨by rfl, rfl⟩) (by assumption) ?_
            (try go_simp)
            refine wpAnyH_take (i := 14) (v := undef) rfl (by kernel_rfl) (by kernel_rfl) (by kernel_rfl) (fun _ _ _ h => h) (Or.inr ⟨by rfl, rfl⟩) (by assumption) ?_
            (try go_simp)
            refine wpAnyH_take (i := 16) (v := undef) rfl (by kernel_rfl) (by kernel_rfl) (by kernel_rfl) (fun _ _ _ h => h) (Or.inr ⟨by rfl, rfl⟩) (by assumption) ?_
            (try go_simp)
            refine wpAnyH_take (i := 17) (v := undef) rfl (by kernel_rfl) (by kernel_rfl) (by kernel_rfl) (fun _ _ _ h => h) (Or.inr ⟨by rfl, rfl⟩) (by assumption) ?_
            (try go_simp)
            refine wpAnyH_take (i := 18) (v := undef) rfl (by kernel_rfl) (by kernel_rfl) (by kernel_rfl) (fun _ _ _ h => h) (Or.inr ⟨by rfl, rfl⟩) (by assumption) ?_
            (try go_simp)
            refine wpAnyH_take (i := 19) (v := undef) rfl (by kernel_rfl) (by kernel_rfl) (by kernel_rfl) (fun _ _ _ h => h) (Or.inr ⟨by rfl, rfl⟩) (by assumption) ?_
            (try go_simp)
            refine wpAnyH_take (i := 20) (v := undef) rfl (by kernel_rfl) (by kernel_rfl) (by kernel_rfl) (fun _ _ _ h => h) (Or.inr ⟨by rfl, rfl⟩) (by assumption) ?_
            (try go_simp)
            refine wpAnyH_ready (rs := [15]) (by kernel_rfl) (by simp) ?_
            refine AllReadyH.cons rfl (fun K hK => ?_) AllReadyH.nil
            rw [if_neg (fun h => by have h2 : false = true := h; cases h2)]
            refine hK.out _ _ ?_ (fun hHeld => ?_)
            · exact HX.out _ hbz
            clear hK K
            (try go_simp)
            refine wpAnyH_ready (rs := [21]) (by kernel_rfl) (by simp) ?_
            refine AllReadyH.cons rfl (fun K hK => ?_) AllReadyH.nil
            rw [if_neg (fun h => by have h2 : false = true := h; cases h2)]
            refine hK.out _ _ ?_ (fun hHeld => ?_)
            · exact HX.out _ hbz
            clear hK K
            (try go_simp)
            refine wpAnyH_ready (rs := [22]) (by kernel_rfl) (by simp) ?_
            refine AllReadyH.cons rfl (fun K hK => ?_) AllReadyH.nil
            rw [if_neg (fun h => by have h2 : false = true := h; cases h2)]
            refine hK.out _ _ ?_ (fun hHeld => ?_)
            · exact HX.out _ hbz
            clear hK K
            (try go_simp)
            refine wpAnyH_take (i := 23) (v := undef) rfl (by kernel_rfl) (by kernel_rfl) (by kernel_rfl) (fun _ _ _ h => h) (Or.inr ⟨by rfl, rfl⟩) (by assumption) ?_
            (try go_simp)
            refine wpAnyH_take (i := 24) (v := ?v24) rfl (by kernel_rfl) (by kernel_rfl) (by kernel_rfl) (fun _ _ _ h => h) (Or.inl ⟨by rfl, ?y24⟩) (by assumption) ?r24
            case y24 => ((intro w hSw; (try dsimp only at hSw); go_simp) <;> (try with_reducible rfl))
            (try go_simp)
            refine wpAnyH_take (i := 25) (v := ?v25) rfl (by kernel_rfl) (by kernel_rfl) (by kernel_rfl) (fun _ _ _ h => h) (Or.inl ⟨by rfl, ?y25⟩) (by assumption) ?r25
            case y25 => ((intro w hSw; (try dsimp only at hSw); go_simp) <;> (try with_reducible rfl))
            (try go_simp)
            refine wpAnyH_done (by kernel_rfl) ?_ _
            all_goals
              go_wp2_with fail
              go_meet
              exact ⟨rfl, Lib.hid hbz⟩
          · have p3 : (0 : Int) < (k : Int) := by omega
            have p4 : (1 : Int) ≤ (k : Int) := by omega
            have wr1 : IntKind.i64.wrap ((k : Int) - 1) = (k : Int) - 1 := IntWalk.i64_in _ ⟨by omega, by omega⟩
            obtain ⟨Y2, hY2⟩ : ∃ Y2, someZ vals (inZ n0 l) consts ((k : Int) - 1) = Y2 := ⟨_, rfl⟩
            have HY2 := Lib.hid hY2
            have HYC : Hid (Y2 = (Y.1, Y.2.map fun g => klip g ((k : Int) - 1))) := by
              unfold Hid
              rw [← hY2, ← HY.out]
              unfold someZ zoneZ
              dsimp only
              rw [clip_zone]
            have HCY2 : Hid (Y2.1.length ≤ 65536 ∧ Y2.2.length ≤ 65536) := by unfold Hid; rw [HYC.out]; dsimp only; rw [List.length_map]; exact HCY.out
            clear hY2 hk0
            refine wp_region_held_drew (S := (fun w' => w'.cell? ⟨w2.heap.size, 0, none⟩ = some (.slice (some ⟨g1, 0, none⟩) N1 q1) ∧ w'.cell? ⟨w2.heap.size, 1, none⟩ = some (.slice (some ⟨g2, 0, none⟩) N2 q2))) (by kernel_rfl) ?_ (fun hHeld => ?_)
            · exact HX.out _ hbz
            refine wpAnyH_take (i := 1) (v := ?vb1) rfl (by kernel_rfl) (by kernel_rfl) (by kernel_rfl) (fun _ _ _ h => h) (Or.inl ⟨by rfl, ?yb1⟩) (by assumption) ?rb1
            case yb1 => ((intro w hSw; (try dsimp only at hSw); go_simp) <;> (try with_reducible rfl))
            (try go_simp)
            refine wpAnyH_take (i := 2) (v := ?vb2) rfl (by kernel_rfl) (by kernel_rfl) (by kernel_rfl) (fun _ _ _ h => h) (Or.inl ⟨by rfl, ?yb2⟩) (by assumption) ?rb2
            case yb2 => ((intro w hSw; (try dsimp only at hSw); go_simp) <;> (try with_reducible rfl))
            (try go_simp)
            refine wpAnyH_take (i := 3) (v := ?vb3) rfl (by kernel_rfl) (by kernel_rfl) (by kernel_rfl) (fun _ _ _ h => h) (Or.inl ⟨by rfl, ?yb3⟩) (by assumption) ?rb3
            case yb3 => ((intro w hSw; (try dsimp only at hSw); go_simp) <;> (try with_reducible rfl))
            (try go_simp)
            refine wpAnyH_take (i := 4) (v := ?vb4) rfl (by kernel_rfl) (by kernel_rfl) (by kernel_rfl) (fun _ _ _ h => h) (Or.inl ⟨by rfl, ?yb4⟩) (by assumption) ?rb4
            case yb4 => ((intro w hSw; (try dsimp only at hSw); go_simp) <;> (try with_reducible rfl))
            (try go_simp)
            refine wpAnyH_take (i := 0) (v := ?vb0) rfl (by kernel_rfl) (by kernel_rfl) (by kernel_rfl) (fun _ _ _ h => h) (Or.inl ⟨by rfl, ?yb0⟩) (by assumption) ?rb0
            case yb0 => ((intro w hSw; (try dsimp only at hSw); go_simp) <;> (try with_reducible rfl))
            (try go_simp)
            refine wpAnyH_ready (rs := [5]) (by kernel_rfl) (by simp) ?_
            refine AllReadyH.cons rfl (fun K hK => ?_) AllReadyH.nil
            go_simp
            refine (rsome_any _ _ _ vals (inZ n0 l) consts k _ (HRD.out _ hbz).1 (HRD.out _ hbz).2.1 (HRD.out _ hbz).2.2 HIN.out HL01.out.1 HL01.out.2 HI.out).mono ?_
            rintro e w4 ⟨x41, x42, rfl, zs, hbs⟩
            change ZoneAt w4 _ _ _ (someZ vals (inZ n0 l) consts k).1 (someZ vals (inZ n0 l) consts k).2 at zs
            rw [HY.out] at zs
            have hbz := hbz.trans (hbs.mono hbz.size)
            clear hbs
            refine hK.out _ _ ?_ (fun hHeld => ?_)
            · exact HX.out _ hbz
            clear hK K
            (try go_simp)
            refine wpAnyH_ready (rs := [6]) (by kernel_rfl) (by simp) ?_
            refine AllReadyH.cons rfl (fun K hK => ?_) AllReadyH.nil
            go_simp
            refine (zsame_eq _ _ _ _ _ _ Y.1 Y.2 _ (HZY.out _ hbz) zs HCY.out.1 HCY.out.2).mono ?_
            rintro e w5 ⟨rfl, hbs⟩
            have hbz := hbz.trans (hbs.mono hbz.size)
            clear hbs zs
            refine hK.out _ _ ?_ (fun hHeld => ?_)
            · exact HX.out _ hbz
            clear hK K
            (try go_simp)
            refine wpAnyH_take (i := 7) (v := ?vb7) rfl (by kernel_rfl) (by kernel_rfl) (by kernel_rfl) (fun _ _ _ h => h) (Or.inl ⟨by rfl, ?yb7⟩) (by assumption) ?rb7
            case yb7 => ((intro w hSw; (try dsimp only at hSw); go_simp) <;> (try with_reducible rfl))
            (try go_simp)
            refine wpAnyH_take (i := 8) (v := ?vb8) rfl (by kernel_rfl) (by kernel_rfl) (by kernel_rfl) (fun _ _ _ h => h) (Or.inl ⟨by rfl, ?yb8⟩) (by assumption) ?rb8
            case yb8 => ((intro w hSw; (try dsimp only at hSw); go_simp) <;> (try with_reducible rfl))
            (try go_simp)
            refine wpAnyH_take (i := 9) (v := ?vb9) rfl (by kernel_rfl) (by kernel_rfl) (by kernel_rfl) (fun _ _ _ h => h) (Or.inl ⟨by rfl, ?yb9⟩) (by assumption) ?rb9
            case yb9 => ((intro w hSw; (try dsimp only at hSw); go_simp) <;> (try with_reducible rfl))
            (try go_simp)
            refine wpAnyH_take (i := 10) (v := .bool true) rfl (by kernel_rfl) (by kernel_rfl) (by kernel_rfl) (fun _ _ _ h => h) (Or.inl ⟨by rfl, ?yy⟩) (by assumption) ?rr
            case yy => ((intro w hSw; (try dsimp only at hSw); go_simp) <;> (first | (with_reducible rfl) | exact p3 | (rw [decide_eq_true p3]) | (rw [decide_eq_true p3]; rfl) | omega | trivial))
            (try go_simp)
            refine wpAnyH_take (i := 11) (v := ?vb11) rfl (by kernel_rfl) (by kernel_rfl) (by kernel_rfl) (fun _ _ _ h => h) (Or.inl ⟨by rfl, ?yb11⟩) (by assumption) ?rb11
            case yb11 => ((intro w hSw; (try dsimp only at hSw); go_simp) <;> (try with_reducible rfl))
            (try go_simp)
            refine wpAnyH_take (i := 13) (v := ?vb13) rfl (by kernel_rfl) (by kernel_rfl) (by kernel_rfl) (fun _ _ _ h => h) (Or.inl ⟨by rfl, ?yb13⟩) (by assumption) ?rb13
            case yb13 => ((intro w hSw; (try dsimp only at hSw); go_simp) <;> (try with_reducible rfl))
            (try go_simp)
            refine wpAnyH_take (i := 14) (v := ?vb14) rfl (by kernel_rfl) (by kernel_rfl) (by kernel_rfl) (fun _ _ _ h => h) (Or.inl ⟨by rfl, ?yb14⟩) (by assumption) ?rb14
            case yb14 => ((intro w hSw; (try dsimp only at hSw); go_simp) <;> (try with_reducible rfl))
            (try go_simp)
            refine wpAnyH_take (i := 12) (v := ?vb12) rfl (by kernel_rfl) (by kernel_rfl) (by kernel_rfl) (fun _ _ _ h => h) (Or.inl ⟨by rfl, ?yb12⟩) (by assumption) ?rb12
            case yb12 => ((intro w hSw; (try dsimp only at hSw); go_simp) <;> (try with_reducible rfl))
            (try go_simp)
            refine wpAnyH_take (i := 16) (v := ?vb16) rfl (by kernel_rfl) (by kernel_rfl) (by kernel_rfl) (fun _ _ _ h => h) (Or.inl ⟨by rfl, ?yb16⟩) (by assumption) ?rb16
            case yb16 => ((intro w hSw; (try dsimp only at hSw); go_simp) <;> (try with_reducible rfl))
            (try go_simp)
            refine wpAnyH_take (i := 17) (v := ?vb17) rfl (by kernel_rfl) (by kernel_rfl) (by kernel_rfl) (fun _ _ _ h => h) (Or.inl ⟨by rfl, ?yb17⟩) (by assumption) ?rb17
            case yb17 => ((intro w hSw; (try dsimp only at hSw); go_simp) <;> (try with_reducible rfl))
            (try go_simp)
            refine wpAnyH_take (i := 18) (v := ?vb18) rfl (by kernel_rfl) (by kernel_rfl) (by kernel_rfl) (fun _ _ _ h => h) (Or.inl ⟨by rfl, ?yb18⟩) (by assumption) ?rb18
            case yb18 => ((intro w hSw; (try dsimp only at hSw); go_simp) <;> (try with_reducible rfl))
            (try go_simp)
            refine wpAnyH_take (i := 19) (v := ?vb19) rfl (by kernel_rfl) (by kernel_rfl) (by kernel_rfl) (fun _ _ _ h => h) (Or.inl ⟨by rfl, ?yb19⟩) (by assumption) ?rb19
            case yb19 => ((intro w hSw; (try dsimp only at hSw); go_simp) <;> (try with_reducible rfl))
            (try go_simp)
            refine wpAnyH_take (i := 20) (v := ?vb20) rfl (by kernel_rfl) (by kernel_rfl) (by kernel_rfl) (fun _ _ _ h => h) (Or.inl ⟨by rfl, ?yb20⟩) (by assumption) ?rb20
            case yb20 => ((intro w hSw; (try dsimp only at hSw); go_simp) <;> (try with_reducible rfl))
            (try go_simp)
            refine wpAnyH_ready (rs := [15]) (by kernel_rfl) (by simp) ?_
            refine AllReadyH.cons rfl (fun K hK => ?_) AllReadyH.nil
            go_simp
            refine (dropClip_any _ _ _ Y.1 Y.2 ((k : Int) - 1) _ (HZY.out _ hbz) HCY.out.1 HCY.out.2).mono ?_
            rintro e w6 ⟨y1, y2, rfl, zc, hbs⟩
            have hbz := hbz.trans (hbs.mono hbz.size)
            clear hbs
            refine hK.out _ _ ?_ (fun hHeld => ?_)
            · exact HX.out _ hbz
            clear hK K
            (try go_simp)
            refine wpAnyH_ready (rs := [21]) (by kernel_rfl) (by simp) ?_
            refine AllReadyH.cons rfl (fun K hK => ?_) AllReadyH.nil
            go_simp
            refine (rsome_any _ _ _ vals (inZ n0 l) consts ((k : Int) - 1) _ (HRD.out _ hbz).1 (HRD.out _ hbz).2.1 (HRD.out _ hbz).2.2 HIN.out HL01.out.1 HL01.out.2 HI.out).mono ?_
            rintro e w7 ⟨x71, x72, rfl, zs2, hbs⟩
            change ZoneAt w7 _ _ _ (someZ vals (inZ n0 l) consts ((k : Int) - 1)).1 (someZ vals (inZ n0 l) consts ((k : Int) - 1)).2 at zs2
            rw [HY2.out] at zs2
            have zc := zc.below hbs
            have hbz := hbz.trans (hbs.mono hbz.size)
            clear hbs
            refine hK.out _ _ ?_ (fun hHeld => ?_)
            · exact HX.out _ hbz
            clear hK K
            (try go_simp)
            refine wpAnyH_ready (rs := [22]) (by kernel_rfl) (by simp) ?_
            refine AllReadyH.cons rfl (fun K hK => ?_) AllReadyH.nil
            go_simp
            refine (zsame_eq _ _ _ _ _ _ Y2.1 Y2.2 _ (by rw [HYC.out]; exact zc) zs2 HCY2.out.1 HCY2.out.2).mono ?_
            rintro e w8 ⟨rfl, hbs⟩
            have hbz := hbz.trans (hbs.mono hbz.size)
            clear hbs zc zs2
            refine hK.out _ _ ?_ (fun hHeld => ?_)
            · exact HX.out _ hbz
            clear hK K
            (try go_simp)
            refine wpAnyH_take (i := 23) (v := ?vb23) rfl (by kernel_rfl) (by kernel_rfl) (by kernel_rfl) (fun _ _ _ h => h) (Or.inl ⟨by rfl, ?yb23⟩) (by assumption) ?rb23
            case yb23 => ((intro w hSw; (try dsimp only at hSw); go_simp) <;> (try with_reducible rfl))
            (try go_simp)
            refine wpAnyH_take (i := 24) (v := ?vb24) rfl (by kernel_rfl) (by kernel_rfl) (by kernel_rfl) (fun _ _ _ h => h) (Or.inl ⟨by rfl, ?yb24⟩) (by assumption) ?rb24
            case yb24 => ((intro w hSw; (try dsimp only at hSw); go_simp) <;> (try with_reducible rfl))
            (try go_simp)
            refine wpAnyH_take (i := 25) (v := ?vb25) rfl (by kernel_rfl) (by kernel_rfl) (by kernel_rfl) (fun _ _ _ h => h) (Or.inl ⟨by rfl, ?yb25⟩) (by assumption) ?rb25
            case yb25 => ((intro w hSw; (try dsimp only at hSw); go_simp) <;> (try with_reducible rfl))
            (try go_simp)
            refine wpAnyH_done (by kernel_rfl) ?_ _
            all_goals
              go_wp2_with fail
              go_meet
              exact ⟨rfl, Lib.hid hbz⟩
        case rest =>
          obtain ⟨rfl, hbz⟩ := hcut
          have HFB := Lib.hid (HBW3.out.trans (hbz.out.mono HBW3.out.size))
          clear hbz HRD HZY HX
          go_wp2
          go_roundw
          case rel => first | exact ⟨k + 1, by go_num, by omega, HFB⟩ | ((repeat apply Exists.intro); exact ⟨⟨k + 1, by go_num, by omega, HFB⟩, rfl⟩)
          case measure => simp [intOf]; omega
      · obtain rfl : k = 5 := by omega
        go_wp2_with fail
        refine (awake23 _).mono ?_
        rintro e w7 ⟨rfl, hb7⟩
        have HF := Lib.hid (HB.out.trans (hb7.mono HB.out.size))
        clear hb7
        go_wp2
        go_ret
        exact ⟨rfl, HF.out⟩

end Go.Proofs.Ytbhmimegcnfjcaa
