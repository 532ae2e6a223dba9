/- The laws of chapter 23: DropOrder. -/
import Derived.Test.YtbhmimegcnfjcaaDropDefs
import Derived.Deep.RegionHeld3
import Derived.Deep.DeepCutAuto
namespace Go.Proofs.Ytbhmimegcnfjcaa
open Go.RowKit

theorem dropZ_all (r a : Int) (z : List (Int × Int) × List Int) : dropZ a r z.1 z.2 = allZ r [a] z := rfl
theorem allZ_cons (r a : Int) (l : List Int) (z : List (Int × Int) × List Int) : allZ r l (dropZ a r z.1 z.2) = allZ r (a :: l) z := rfl
theorem order_plain (vals consts : List Int) (a b r : Int) (hv : vals.length ≤ 31) :
    dropZ a r (dropZ b r (ofZ vals consts r).1 (ofZ vals consts r).2).1 (dropZ b r (ofZ vals consts r).1 (ofZ vals consts r).2).2 = dropZ b r (dropZ a r (ofZ vals consts r).1 (ofZ vals consts r).2).1 (dropZ a r (ofZ vals consts r).1 (ofZ vals consts r).2).2 ∧
    dropZ a r (dropZ b r (dropZ a r (ofZ vals consts r).1 (ofZ vals consts r).2).1 (dropZ a r (ofZ vals consts r).1 (ofZ vals consts r).2).2).1 (dropZ b r (dropZ a r (ofZ vals consts r).1 (ofZ vals consts r).2).1 (dropZ a r (ofZ vals consts r).1 (ofZ vals consts r).2).2).2 = dropZ b r (dropZ a r (ofZ vals consts r).1 (ofZ vals consts r).2).1 (dropZ a r (ofZ vals consts r).1 (ofZ vals consts r).2).2 ∧
    allZ r [b, a, b] (ofZ vals consts r) = dropZ b r (dropZ a r (ofZ vals consts r).1 (ofZ vals consts r).2).1 (dropZ a r (ofZ vals consts r).1 (ofZ vals consts r).2).2 := by
  refine ⟨all_order vals consts [b, a] [a, b] r hv (fun x => ?_), all_order vals consts [a, b, a] [a, b] r hv (fun x => ?_), all_order vals consts [b, a, b] [a, b] r hv (fun x => ?_)⟩
  all_goals (simp only [List.mem_cons, List.not_mem_nil, or_false]; grind)

/-- three written numbers in new memory -/
theorem lit3 (w : World) (a b c : Int) : Reads (w.alloc (.cells #[.int .i64 a, .int .i64 b, .int .i64 c] 3)) (.slice (some ⟨w.heap.size, 0, none⟩) 3 3) (ints [a, b, c]) := by
  refine .inr ⟨w.heap.size, 0, 3, rfl, by simp, by simp [ints]; unfold maxLen; omega, fun t x hx => ?_⟩
  rw [World.cell?_alloc_at _ _ _ _ rfl]
  simpa [ints] using hx

set_option maxRecDepth 100000 in
set_option maxHeartbeats 8000000 in
theorem dropOrder_any (v0 v1 : Value) (vals consts : List Int) (a b r : Int) (w : World) (h0 : Reads w v0 (ints vals)) (h1 : Reads w v1 (ints consts)) (hi : ∀ x ∈ vals ++ consts, -9223372036854775808 ≤ x ∧ x ≤ 9223372036854775807) :
    Calls Try.prog 11 #[v0, v1, .agg #[.int .i64 a, .int .i64 b, .int .i64 r]] w fun e w' => e = .returned (.bool true) ∧ Below w.heap.size w w' := by
  obtain ⟨ad0, cap0, e0, -⟩ := h0.len
  obtain ⟨ad1, cap1, e1, -⟩ := h1.len
  rw [ints_len] at e0 e1
  obtain ⟨n0, hn0⟩ : ∃ n, vals.length = n := ⟨_, rfl⟩
  obtain ⟨n1, hn1⟩ : ∃ n, consts.length = n := ⟨_, rfl⟩
  rw [hn0] at e0; rw [hn1] at e1
  subst e0; subst e1
  have hal0 := (Below.refl w.heap.size w).alloc (Nat.le_refl _) (.cells #[.int .i64 a, .int .i64 b, .int .i64 r] 52)
  have HN0 := Lib.hid hn0; have HN1 := Lib.hid hn1
  have H0 := Lib.hid (h0.below (Nat.le_refl _) hal0); have H1 := Lib.hid (h1.below (Nat.le_refl _) hal0); have HI := Lib.hid hi
  have HA0 := Lib.hid hal0
  clear hn0 hn1 h0 h1 hi hal0
  have hcase : (10 < n0) ∨ (n0 ≤ 10 ∧ 10 < n1) ∨ (n0 ≤ 10 ∧ n1 ≤ 10 ∧ 10 < r) ∨ (n0 ≤ 10 ∧ n1 ≤ 10 ∧ r ≤ 10) := by omega
  rcases hcase with k0 | ⟨k0, k1⟩ | ⟨k0, k1, k2⟩ | ⟨k0, k1, k2⟩
  · go_enter Try.func11, Try.ntmps11
    go_wp2_with fail
    refine (awake23 _).mono ?_
    rintro e w7 ⟨rfl, hb7⟩
    have HF := Lib.hid (HA0.out.trans (hb7.mono HA0.out.size))
    clear hb7
    go_wp2
    go_ret
    exact ⟨rfl, HF.out⟩
  · go_enter Try.func11, Try.ntmps11
    go_wp2_with fail
    refine (awake23 _).mono ?_
    rintro e w7 ⟨rfl, hb7⟩
    have HF := Lib.hid (HA0.out.trans (hb7.mono HA0.out.size))
    clear hb7
    go_wp2
    go_ret
    exact ⟨rfl, HF.out⟩
  · go_enter Try.func11, Try.ntmps11
    go_wp2_with fail
    refine (awake23 _).mono ?_
    rintro e w7 ⟨rfl, hb7⟩
    have HF := Lib.hid (HA0.out.trans (hb7.mono HA0.out.size))
    clear hb7
    go_wp2
    go_ret
    exact ⟨rfl, HF.out⟩
  · have hp := order_plain vals consts a b r (by rw [HN0.out]; omega)
    obtain ⟨Z, hZ⟩ : ∃ Z, ofZ vals consts r = Z := ⟨_, rfl⟩
    have hzl := ofZ_len vals consts r
    rw [hZ] at hp hzl
    rw [HN0.out, HN1.out] at hzl
    have HZ := Lib.hid hZ
    obtain ⟨A, hA⟩ : ∃ A, dropZ a r Z.1 Z.2 = A := ⟨_, rfl⟩
    obtain ⟨X, hX⟩ : ∃ X, dropZ b r A.1 A.2 = X := ⟨_, rfl⟩
    obtain ⟨C, hC⟩ : ∃ C, dropZ b r Z.1 Z.2 = C := ⟨_, rfl⟩
    rw [hA, hX, hC] at hp
    have lA := dropZ_len a r Z.1 Z.2; rw [hA] at lA
    have lX := dropZ_len b r A.1 A.2; rw [hX] at lX
    have lC := dropZ_len b r Z.1 Z.2; rw [hC] at lC
    have HLZ := Lib.hid (show Z.1.length ≤ 65536 ∧ Z.2.length ≤ 65536 by omega)
    have HLA := Lib.hid (show A.1.length ≤ 65536 ∧ A.2.length ≤ 65536 by omega)
    have HLX := Lib.hid (show X.1.length ≤ 65536 ∧ X.2.length ≤ 65536 by omega)
    have HLC := Lib.hid (show C.1.length ≤ 65536 ∧ C.2.length ≤ 65536 by omega)
    have HP1 := Lib.hid hp.1; have HP2 := Lib.hid hp.2.1; have HP3 := Lib.hid hp.2.2
    have HA := Lib.hid hA; have HX := Lib.hid hX; have HC := Lib.hid hC
    clear hp hzl lA lX lC hZ hA hX hC
    go_enter Try.func11, Try.ntmps11
    go_wp2
    go_quiet (fail)
    obtain ⟨wd, hwd⟩ : ∃ W, (w.alloc (.cells #[.int .i64 a, .int .i64 b, .int .i64 r] 52)).drewN nq = W := ⟨_, rfl⟩
    have hbd : Below w.heap.size w wd := by rw [← hwd]; exact below_drewN HA0.out nq
    have R0 := Lib.hid (show Reads wd (.slice ad0 n0 cap0) (ints vals) by rw [← hwd]; exact H0.out.below (Nat.le_refl _) (below_drewN (Below.refl _ _) nq))
    have R1 := Lib.hid (show Reads wd (.slice ad1 n1 cap1) (ints consts) by rw [← hwd]; exact H1.out.below (Nat.le_refl _) (below_drewN (Below.refl _ _) nq))
    have HBD := Lib.hid hbd
    rw [hwd]
    clear hwd hbd H0 H1
    go_wp2_with fail
    refine (rof_any _ _ vals consts r wd R0.out R1.out (by rw [HN0.out]; omega) (by rw [HN1.out]; omega) HI.out).mono ?_
    rintro e w1 ⟨x1, x2, rfl, z1, hb1⟩
    change ZoneAt w1 _ x1 x2 (ofZ vals consts r).1 (ofZ vals consts r).2 at z1
    rw [HZ.out] at z1
    obtain ⟨a1, c1, a2, c2, e1, e2⟩ := zone_shape z1
    obtain ⟨m1, hm1⟩ : ∃ m, Z.1.length = m := ⟨_, rfl⟩
    obtain ⟨m2, hm2⟩ : ∃ m, Z.2.length = m := ⟨_, rfl⟩
    rw [hm1] at e1; rw [hm2] at e2
    subst e1; subst e2
    have hal := (Below.refl w1.heap.size w1).alloc (Nat.le_refl _) (.cells #[.slice a1 m1 c1, .slice a2 m2 c2] 55)
    have Z1 := Lib.hid (z1.below hal)
    have X10 := Lib.hid (Box2.new w1 (.slice a1 m1 c1) (.slice a2 m2 c2))
    have HBW := Lib.hid ((HBD.out.trans (hb1.mono HBD.out.size)).trans (hal.mono (Nat.le_trans HBD.out.size hb1.size)))
    have HM := Lib.hid (And.intro hm1 hm2)
    clear hm1 hm2 hal z1 hb1 R0 R1 HBD
    go_wp2_with fail
    refine (drop_any _ _ _ Z.1 Z.2 a r _ Z1.out HLZ.out.1 HLZ.out.2).mono ?_
    rintro e w2 ⟨y1, d1, y2, d2, rfl, z2, hb2⟩
    rw [HA.out] at z2 ⊢
    have Z12 := Lib.hid (Z1.out.below hb2)
    have X102 := Lib.hid (show Box2 w2 w1.heap.size _ _ from (hb2.block _ X10.out.lt).trans X10.out)
    have HBW2 := Lib.hid (HBW.out.trans (hb2.mono HBW.out.size))
    have Z2 := Lib.hid z2
    clear z2 hb2 Z1 X10 HBW
    go_wp2_with fail
    refine (drop_any _ _ _ A.1 A.2 b r _ Z2.out HLA.out.1 HLA.out.2).mono ?_
    rintro e w3 ⟨g1, q1, g2, q2, rfl, z3, hb3⟩
    rw [HX.out] at z3 ⊢
    obtain ⟨N1, hN1⟩ : ∃ m, X.1.length = m := ⟨_, rfl⟩
    obtain ⟨N2, hN2⟩ : ∃ m, X.2.length = m := ⟨_, rfl⟩
    rw [hN1, hN2] at z3 ⊢
    have hal := (Below.refl w3.heap.size w3).alloc (Nat.le_refl _) (.cells #[.slice (some ⟨g1, 0, none⟩) N1 q1, .slice (some ⟨g2, 0, none⟩) N2 q2] 55)
    obtain ⟨w4, hw4⟩ : ∃ W, w3.alloc (.cells #[.slice (some ⟨g1, 0, none⟩) N1 q1, .slice (some ⟨g2, 0, none⟩) N2 q2] 55) = W := ⟨_, rfl⟩
    have zz := (Z12.out.below hb3).below hal
    have zx := z3.below hal
    have x10 := Box2.alloc (show Box2 w3 w1.heap.size _ _ from (hb3.block _ X102.out.lt).trans X102.out) (.cells #[.slice (some ⟨g1, 0, none⟩) N1 q1, .slice (some ⟨g2, 0, none⟩) N2 q2] 55)
    have x11 := Box2.new w3 (.slice (some ⟨g1, 0, none⟩) N1 q1) (.slice (some ⟨g2, 0, none⟩) N2 q2)
    have hbw4 := (HBW2.out.trans (hb3.mono HBW2.out.size)).trans (hal.mono (Nat.le_trans HBW2.out.size hb3.size))
    go_wp2_with fail
    rw [hw4] at zz zx x10 x11 hbw4
    have HZZ : Hid (∀ W, Below w4.heap.size w4 W → ZoneAt W _ (.slice a1 m1 c1) (.slice a2 m2 c2) Z.1 Z.2) := fun W hW => zz.below hW
    have HZX : Hid (∀ W, Below w4.heap.size w4 W → ZoneAt W _ (.slice (some ⟨g1, 0, none⟩) N1 q1) (.slice (some ⟨g2, 0, none⟩) N2 q2) X.1 X.2) := fun W hW => zx.below hW
    have HS : Hid (∀ W, Below w4.heap.size w4 W → W.cell? ⟨w1.heap.size, 0, none⟩ = some (.slice a1 m1 c1) ∧ W.cell? ⟨w1.heap.size, 1, none⟩ = some (.slice a2 m2 c2) ∧ W.cell? ⟨w3.heap.size, 0, none⟩ = some (.slice (some ⟨g1, 0, none⟩) N1 q1) ∧ W.cell? ⟨w3.heap.size, 1, none⟩ = some (.slice (some ⟨g2, 0, none⟩) N2 q2)) := fun W hW => by
      have y10 : Box2 W w1.heap.size _ _ := (hW.block _ x10.lt).trans x10
      have y11 : Box2 W w3.heap.size _ _ := (hW.block _ x11.lt).trans x11
      exact ⟨y10.c0, y10.c1, y11.c0, y11.c1⟩
    have HBW4 := Lib.hid hbw4
    have hl1 := x10.lt; have hl3 := x11.lt
    clear zz zx x10 x11 hbw4 hal hb3 z3 Z12 X102 HBW2 Z2 hw4 hN1 hN2
    have hbz : Below w4.heap.size w4 w4 := Below.refl _ _
    obtain ⟨s0, s1, s2, s3⟩ := HS.out _ hbz
    have hbz : Below w4.heap.size w4 w4.drew := (Below.refl _ _).drew
    first
    | (go_region_held3 (fun w' => w'.cell? ⟨w1.heap.size, 0, none⟩ = some (.slice a1 m1 c1) ∧ w'.cell? ⟨w1.heap.size, 1, none⟩ = some (.slice a2 m2 c2) ∧ w'.cell? ⟨w3.heap.size, 0, none⟩ = some (.slice (some ⟨g1, 0, none⟩) N1 q1) ∧ w'.cell? ⟨w3.heap.size, 1, none⟩ = some (.slice (some ⟨g2, 0, none⟩) N2 q2))
        (first | exact HS.out _ (by assumption) | go_keep)
        (first
          | (go_simp; go_at_call 52; (with_reducible refine (drop_any _ _ _ Z.1 Z.2 b r _ (HZZ.out _ (by assumption)) HLZ.out.1 HLZ.out.2).mono ?_)
             rintro e w5 ⟨h1, h2, h3, h4, rfl, zc, hbs⟩
             rw [HC.out] at zc ⊢
             have hbz := hbz.trans (hbs.mono hbz.size)
             clear hbs)
          | (go_simp; go_at_call 52; (with_reducible refine (drop_any _ _ _ C.1 C.2 a r _ zc HLC.out.1 HLC.out.2).mono ?_)
             rintro e w6 ⟨h1, h2, h3, h4, rfl, zd, hbs⟩
             rw [HP1.out] at zd ⊢
             have hbz := hbz.trans (hbs.mono hbz.size)
             clear hbs zc)
          | (go_simp; go_at_call 53; (with_reducible refine (zsame_eq _ _ _ _ _ _ X.1 X.2 _ (HZX.out _ (by assumption)) zd HLX.out.1 HLX.out.2).mono ?_)
             rintro e w7 ⟨rfl, hbs⟩
             have hbz := hbz.trans (hbs.mono hbz.size)
             clear hbs zd)
          | (go_simp; go_at_call 52; (with_reducible refine (drop_any _ _ _ X.1 X.2 a r _ (HZX.out _ (by assumption)) HLX.out.1 HLX.out.2).mono ?_)
             rintro e w8 ⟨h1, h2, h3, h4, rfl, ze, hbs⟩
             rw [HP2.out] at ze ⊢
             have hbz := hbz.trans (hbs.mono hbz.size)
             clear hbs)
          | (go_simp; go_at_call 53; (with_reducible refine (zsame_eq _ _ _ _ _ _ X.1 X.2 _ ze (HZX.out _ (by assumption)) HLX.out.1 HLX.out.2).mono ?_)
             rintro e w9 ⟨rfl, hbs⟩
             have hbz := hbz.trans (hbs.mono hbz.size)
             clear hbs ze)
          | (go_simp; go_at_call 54; (with_reducible refine (dropAll_any _ _ _ _ Z.1 Z.2 [b, a, b] r _ ((HZZ.out _ (by assumption)).below ((Below.refl _ _).alloc (Nat.le_refl _) _)) (lit3 _ b a b) HLZ.out.1 HLZ.out.2 (by simp)).mono ?_)
             rintro e w10 ⟨h1, h2, h3, h4, rfl, zf, hbs⟩
             rw [HP3.out] at zf ⊢
             have hbz := hbz.trans ((((Below.refl _ _).alloc (Nat.le_refl _) _).trans (hbs.mono (by simp))).mono hbz.size)
             clear hbs)
          | (go_simp; go_at_call 53; (with_reducible refine (zsame_eq _ _ _ _ _ _ X.1 X.2 _ zf (HZX.out _ (by assumption)) HLX.out.1 HLX.out.2).mono ?_)
             rintro e w11 ⟨rfl, hbs⟩
             have hbz := hbz.trans (hbs.mono hbz.size)
             clear hbs zf)
          | (go_simp; go_at_call 50; (with_reducible refine (awake23 _).mono ?_)
             rintro e w12 ⟨rfl, hbs⟩
             have hbz := hbz.trans (hbs.mono hbz.size)
             clear hbs)))
    | fail
    all_goals
      go_wp2
      go_ret
      exact ⟨rfl, HBW4.out.trans (hbz.mono HBW4.out.size)⟩

end Go.Proofs.Ytbhmimegcnfjcaa
