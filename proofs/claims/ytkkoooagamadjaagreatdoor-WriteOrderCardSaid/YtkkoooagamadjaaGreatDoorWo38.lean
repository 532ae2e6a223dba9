/- The law WriteOrder. Arguments: rows of numbers of 64 bits, three numbers. -/
import Derived.Test.YtkkoooagamadjaaGreatDoorWo30
import Derived.Test.YtkkoooagamadjaaGreatDoorWo27
import Derived.Test.YtkkoooagamadjaaGreatDoorWo35
import Derived.Test.YtkkoooagamadjaaGreatDoorWo37
import Derived.Test.YtkkoooagamadjaaGreatDoorWo34
import Derived.Test.YtkkoooagamadjaaGreatDoorWo33
import Derived.OpenShut

namespace Go.Proofs.YtkkoooagamadjaaGreatDoor
open Go.RowKit Go.Shelf

set_option maxRecDepth 100000 in
set_option maxHeartbeats 4000000 in
theorem writeOrder_any (v0 v1 : Value) (vals consts : List Int) (a b r : Int) (w : World) (ht : PTab w) (h0 : RowE intE 1 w v0 vals) (h1 : Reads w v1 (ints consts)) (hi : ∀ x ∈ vals ++ consts, In64 x) :
    Calls Tryz.prog 3 #[v0, v1, .agg #[.int .i64 a, .int .i64 b, .int .i64 r]] w fun e w' => e = .returned (.bool true) ∧ Below w.heap.size w w' := by
  obtain ⟨ad0, cap0, e0⟩ := h0.len
  obtain ⟨ad1, cap1, e1, -⟩ := h1.len
  rw [ints_len] at e1
  obtain ⟨n0, hn0⟩ : ∃ n, vals.length = n := ⟨_, rfl⟩
  obtain ⟨n1, hn1⟩ : ∃ n, consts.length = n := ⟨_, rfl⟩
  rw [hn0] at e0; rw [hn1] at e1
  subst e0; subst e1
  have hal0 := (Below.refl w.heap.size w).alloc (Nat.le_refl _) (.cells #[.int .i64 a, .int .i64 b, .int .i64 r] 23)
  have HI := Lib.hid hi; have HN0 := Lib.hid hn0; have HN1 := Lib.hid hn1
  have H0 := Lib.hid h0; have H1 := Lib.hid h1; have HT := Lib.hid ht
  have HA0 := Lib.hid hal0
  clear hn0 hn1 h0 h1 hal0 ht hi
  have hcase : (4 < n0) ∨ (n0 ≤ 4 ∧ 3 < n1) ∨ (n0 ≤ 4 ∧ n1 ≤ 3 ∧ a < 0) ∨ (n0 ≤ 4 ∧ n1 ≤ 3 ∧ 0 ≤ a ∧ (n0 : Int) ≤ a) ∨ (n0 ≤ 4 ∧ n1 ≤ 3 ∧ 0 ≤ a ∧ a < n0 ∧ b < 0) ∨ (n0 ≤ 4 ∧ n1 ≤ 3 ∧ 0 ≤ a ∧ a < n0 ∧ 0 ≤ b ∧ (n0 : Int) ≤ b) ∨ (n0 ≤ 4 ∧ n1 ≤ 3 ∧ 0 ≤ a ∧ a < n0 ∧ 0 ≤ b ∧ b < n0 ∧ a = b) ∨
      (n0 ≤ 4 ∧ n1 ≤ 3 ∧ 0 ≤ a ∧ a < n0 ∧ 0 ≤ b ∧ b < n0 ∧ a ≠ b ∧ r < 2) ∨ (n0 ≤ 4 ∧ n1 ≤ 3 ∧ 0 ≤ a ∧ a < n0 ∧ 0 ≤ b ∧ b < n0 ∧ a ≠ b ∧ 2 ≤ r ∧ 3 < r) ∨ (n0 ≤ 4 ∧ n1 ≤ 3 ∧ 0 ≤ a ∧ a < n0 ∧ 0 ≤ b ∧ b < n0 ∧ a ≠ b ∧ 2 ≤ r ∧ r ≤ 3) := by
    by_cases q0 : 4 < n0
    · exact .inl q0
    replace q0 : n0 ≤ 4 := by omega
    by_cases q1 : 3 < n1
    · exact .inr (.inl ⟨q0, q1⟩)
    replace q1 : n1 ≤ 3 := by omega
    by_cases q2 : a < 0
    · exact .inr (.inr (.inl ⟨q0, q1, q2⟩))
    replace q2 : 0 ≤ a := by omega
    by_cases q3 : (n0 : Int) ≤ a
    · exact .inr (.inr (.inr (.inl ⟨q0, q1, q2, q3⟩)))
    replace q3 : a < n0 := by omega
    by_cases q4 : b < 0
    · exact .inr (.inr (.inr (.inr (.inl ⟨q0, q1, q2, q3, q4⟩))))
    replace q4 : 0 ≤ b := by omega
    by_cases q5 : (n0 : Int) ≤ b
    · exact .inr (.inr (.inr (.inr (.inr (.inl ⟨q0, q1, q2, q3, q4, q5⟩)))))
    replace q5 : b < n0 := by omega
    by_cases q6 : a = b
    · exact .inr (.inr (.inr (.inr (.inr (.inr (.inl ⟨q0, q1, q2, q3, q4, q5, q6⟩))))))
    by_cases q7 : r < 2
    · exact .inr (.inr (.inr (.inr (.inr (.inr (.inr (.inl ⟨q0, q1, q2, q3, q4, q5, q6, q7⟩)))))))
    replace q7 : 2 ≤ r := by omega
    by_cases q8 : 3 < r
    · exact .inr (.inr (.inr (.inr (.inr (.inr (.inr (.inr (.inl ⟨q0, q1, q2, q3, q4, q5, q6, q7, q8⟩))))))))
    · exact .inr (.inr (.inr (.inr (.inr (.inr (.inr (.inr (.inr ⟨q0, q1, q2, q3, q4, q5, q6, q7, by omega⟩))))))))
  rcases hcase with k0 | ⟨k0, k1⟩ | ⟨k0, k1, k2⟩ | ⟨k0, k1, k2, k3⟩ | ⟨k0, k1, k2, k3, k4⟩ | ⟨k0, k1, k2, k3, k4, k5⟩ | ⟨k0, k1, k2, k3, k4, k5, k6⟩ | ⟨k0, k1, k2, k3, k4, k5, k6, k7⟩ | ⟨k0, k1, k2, k3, k4, k5, k6, k7, k8⟩ | ⟨k0, k1, k2, k3, k4, k5, k6, k7, k8⟩
  · go_enter Tryz.func3, Tryz.ntmps3
    go_wp2
    go_quiet (fail)
    obtain ⟨wd, hwd⟩ : ∃ W, (w.alloc (.cells #[.int .i64 a, .int .i64 b, .int .i64 r] 23)).drewN nq = W := ⟨_, rfl⟩
    have HBD := Lib.hid (show Below w.heap.size w wd by rw [← hwd]; exact below_drewN HA0.out nq)
    rw [hwd]
    clear hwd
    have HAW := Lib.hid (awake25 (HT.out.keep HBD.out))
    go_wp2_with fail
    refine HAW.out.mono ?_
    rintro e w7 ⟨rfl, hb7⟩
    have HF := Lib.hid (HBD.out.trans (hb7.mono HBD.out.size))
    clear hb7
    go_wp2
    go_ret
    exact ⟨rfl, HF.out⟩
  · go_enter Tryz.func3, Tryz.ntmps3
    go_wp2
    go_quiet (fail)
    obtain ⟨wd, hwd⟩ : ∃ W, (w.alloc (.cells #[.int .i64 a, .int .i64 b, .int .i64 r] 23)).drewN nq = W := ⟨_, rfl⟩
    have HBD := Lib.hid (show Below w.heap.size w wd by rw [← hwd]; exact below_drewN HA0.out nq)
    rw [hwd]
    clear hwd
    have HAW := Lib.hid (awake25 (HT.out.keep HBD.out))
    go_wp2_with fail
    refine HAW.out.mono ?_
    rintro e w7 ⟨rfl, hb7⟩
    have HF := Lib.hid (HBD.out.trans (hb7.mono HBD.out.size))
    clear hb7
    go_wp2
    go_ret
    exact ⟨rfl, HF.out⟩
  · go_enter Tryz.func3, Tryz.ntmps3
    go_wp2
    go_quiet (fail)
    obtain ⟨wd, hwd⟩ : ∃ W, (w.alloc (.cells #[.int .i64 a, .int .i64 b, .int .i64 r] 23)).drewN nq = W := ⟨_, rfl⟩
    have HBD := Lib.hid (show Below w.heap.size w wd by rw [← hwd]; exact below_drewN HA0.out nq)
    rw [hwd]
    clear hwd
    have HAW := Lib.hid (awake25 (HT.out.keep HBD.out))
    go_wp2_with fail
    refine HAW.out.mono ?_
    rintro e w7 ⟨rfl, hb7⟩
    have HF := Lib.hid (HBD.out.trans (hb7.mono HBD.out.size))
    clear hb7
    go_wp2
    go_ret
    exact ⟨rfl, HF.out⟩
  · go_enter Tryz.func3, Tryz.ntmps3
    go_wp2
    go_quiet (fail)
    obtain ⟨wd, hwd⟩ : ∃ W, (w.alloc (.cells #[.int .i64 a, .int .i64 b, .int .i64 r] 23)).drewN nq = W := ⟨_, rfl⟩
    have HBD := Lib.hid (show Below w.heap.size w wd by rw [← hwd]; exact below_drewN HA0.out nq)
    rw [hwd]
    clear hwd
    have HAW := Lib.hid (awake25 (HT.out.keep HBD.out))
    go_wp2_with fail
    refine HAW.out.mono ?_
    rintro e w7 ⟨rfl, hb7⟩
    have HF := Lib.hid (HBD.out.trans (hb7.mono HBD.out.size))
    clear hb7
    go_wp2
    go_ret
    exact ⟨rfl, HF.out⟩
  · go_enter Tryz.func3, Tryz.ntmps3
    go_wp2
    go_quiet (fail)
    obtain ⟨wd, hwd⟩ : ∃ W, (w.alloc (.cells #[.int .i64 a, .int .i64 b, .int .i64 r] 23)).drewN nq = W := ⟨_, rfl⟩
    have HBD := Lib.hid (show Below w.heap.size w wd by rw [← hwd]; exact below_drewN HA0.out nq)
    rw [hwd]
    clear hwd
    have HAW := Lib.hid (awake25 (HT.out.keep HBD.out))
    go_wp2_with fail
    refine HAW.out.mono ?_
    rintro e w7 ⟨rfl, hb7⟩
    have HF := Lib.hid (HBD.out.trans (hb7.mono HBD.out.size))
    clear hb7
    go_wp2
    go_ret
    exact ⟨rfl, HF.out⟩
  · go_enter Tryz.func3, Tryz.ntmps3
    go_wp2
    go_quiet (fail)
    obtain ⟨wd, hwd⟩ : ∃ W, (w.alloc (.cells #[.int .i64 a, .int .i64 b, .int .i64 r] 23)).drewN nq = W := ⟨_, rfl⟩
    have HBD := Lib.hid (show Below w.heap.size w wd by rw [← hwd]; exact below_drewN HA0.out nq)
    rw [hwd]
    clear hwd
    have HAW := Lib.hid (awake25 (HT.out.keep HBD.out))
    go_wp2_with fail
    refine HAW.out.mono ?_
    rintro e w7 ⟨rfl, hb7⟩
    have HF := Lib.hid (HBD.out.trans (hb7.mono HBD.out.size))
    clear hb7
    go_wp2
    go_ret
    exact ⟨rfl, HF.out⟩
  · subst k6
    go_enter Tryz.func3, Tryz.ntmps3
    go_wp2
    go_quiet (fail)
    obtain ⟨wd, hwd⟩ : ∃ W, (w.alloc (.cells #[.int .i64 a, .int .i64 a, .int .i64 r] 23)).drewN nq = W := ⟨_, rfl⟩
    have HBD := Lib.hid (show Below w.heap.size w wd by rw [← hwd]; exact below_drewN HA0.out nq)
    rw [hwd]
    clear hwd
    have HAW := Lib.hid (awake25 (HT.out.keep HBD.out))
    go_wp2_with fail
    refine HAW.out.mono ?_
    rintro e w7 ⟨rfl, hb7⟩
    have HF := Lib.hid (HBD.out.trans (hb7.mono HBD.out.size))
    clear hb7
    go_wp2
    go_ret
    exact ⟨rfl, HF.out⟩
  · have hab : (a == b) = false := by simpa using k6
    clear k6
    go_enter Tryz.func3, Tryz.ntmps3
    go_wp2
    go_quiet (fail)
    obtain ⟨wd, hwd⟩ : ∃ W, (w.alloc (.cells #[.int .i64 a, .int .i64 b, .int .i64 r] 23)).drewN nq = W := ⟨_, rfl⟩
    have HBD := Lib.hid (show Below w.heap.size w wd by rw [← hwd]; exact below_drewN HA0.out nq)
    rw [hwd]
    clear hwd
    have HAW := Lib.hid (awake25 (HT.out.keep HBD.out))
    go_wp2_with fail
    refine HAW.out.mono ?_
    rintro e w7 ⟨rfl, hb7⟩
    have HF := Lib.hid (HBD.out.trans (hb7.mono HBD.out.size))
    clear hb7
    go_wp2
    go_ret
    exact ⟨rfl, HF.out⟩
  · have hab : (a == b) = false := by simpa using k6
    clear k6
    go_enter Tryz.func3, Tryz.ntmps3
    go_wp2
    go_quiet (fail)
    obtain ⟨wd, hwd⟩ : ∃ W, (w.alloc (.cells #[.int .i64 a, .int .i64 b, .int .i64 r] 23)).drewN nq = W := ⟨_, rfl⟩
    have HBD := Lib.hid (show Below w.heap.size w wd by rw [← hwd]; exact below_drewN HA0.out nq)
    rw [hwd]
    clear hwd
    have HAW := Lib.hid (awake25 (HT.out.keep HBD.out))
    go_wp2_with fail
    refine HAW.out.mono ?_
    rintro e w7 ⟨rfl, hb7⟩
    have HF := Lib.hid (HBD.out.trans (hb7.mono HBD.out.size))
    clear hb7
    go_wp2
    go_ret
    exact ⟨rfl, HF.out⟩
  · obtain ⟨a, rfl⟩ := Int.eq_ofNat_of_zero_le k2
    obtain ⟨b, rfl⟩ := Int.eq_ofNat_of_zero_le k4
    have hab : ((a : Int) == (b : Int)) = false := by simpa using k6
    have HAB : Hid (a ≠ b) := Lib.hid fun e => k6 (by rw [e])
    clear k6
    go_enter Tryz.func3, Tryz.ntmps3
    go_wp2
    go_quiet (fail)
    obtain ⟨wd, hwd⟩ : ∃ W, (w.alloc (.cells #[.int .i64 a, .int .i64 b, .int .i64 r] 23)).drewN nq = W := ⟨_, rfl⟩
    have hbd : Below w.heap.size w wd := by rw [← hwd]; exact below_drewN HA0.out nq
    have HBD := Lib.hid hbd
    rw [hwd]
    have HTD := Lib.hid (HT.out.keep hbd)
    have r0 := H0.out.below intE_keep hbd
    have r1 := H1.out.below (Nat.le_refl _) hbd
    have HR0 := Lib.hid r0; have HR1 := Lib.hid r1
    clear hwd HA0 H0 H1 HT hbd
    have hN0 := HN0.out; have hN1 := HN1.out
    have HOF := Lib.hid (zof_any r HR0.out HR1.out (by omega) (by omega) HI.out)
    have HOK1 := Lib.hid (order_ok vals consts a b r (by omega) (by omega) (by omega) (by omega) k7 k8)
    have HOK2 := Lib.hid (order_ok vals consts b a r (by omega) (by omega) (by omega) (by omega) k7 k8)
    clear hN0 hN1
    go_wp2_with fail
    refine HOF.out.mono ?_
    rintro e w5 ⟨u1, u2, rfl, hz5, hb5⟩
    obtain ⟨xa, xc, hx1⟩ := owns_len hz5.1
    obtain ⟨ya, yc, hy1⟩ := owns_len hz5.2
    obtain ⟨cn, hcn⟩ : ∃ cn, (ofZ vals consts r).1.length = cn := ⟨_, rfl⟩
    obtain ⟨gn, hgn⟩ : ∃ gn, (ofZ vals consts r).2.length = gn := ⟨_, rfl⟩
    rw [hcn] at hx1; rw [hgn] at hy1
    subst hx1; subst hy1
    obtain ⟨W6, hW6⟩ : ∃ W6, w5.alloc (.cells #[.slice xa cn xc, .slice ya gn yc] 28) = W6 := ⟨_, rfl⟩
    have hb6 : Below w5.heap.size w5 W6 := by rw [← hW6]; exact (Below.refl _ _).alloc (Nat.le_refl _) _
    have x6 : Blk W6 w5.heap.size #[.slice xa cn xc, .slice ya gn yc] 28 := by rw [← hW6]; exact Blk.new _ _ _
    have hlow6 : Below wd.heap.size wd W6 := (hb5).trans (hb6.mono hb5.size)
    have HT6 := Lib.hid (HTD.out.keep hlow6)
    have HZ6 := Lib.hid ((ZoneIn.of_at hz5).below hb6)
    have HCV := Lib.hid (CapV.of_owns hz5.2)
    have HX6 := Lib.hid x6
    have HLOW6 := Lib.hid hlow6
    have HWW : Hid (∀ (W : World) (g p q : Nat), Below W6.heap.size W6 W → W.cell? ⟨g, 0, none⟩ = some (.int .i64 p) → W.cell? ⟨g, 1, none⟩ = some (.int .i64 q) → WrOK r [(p : Int), (q : Int)] [ofZ vals consts r] →
        Calls Tryz.prog 7 #[.agg #[.slice xa cn xc, .slice ya gn yc], .slice (some ⟨g, 0, none⟩) 2 2, .int .i64 r] W fun e w' => ∃ v', e = .returned v' ∧ ZIs w' v' (writeL r [(p : Int), (q : Int)] [ofZ vals consts r]) ∧ Below W.heap.size W w') := by
      intro W g p q hb c0 c1 hok
      refine write_any (HT6.out.keep hb) r (HZ6.out.below hb) HCV.out ?_ (by simp) (by omega) (by omega) hok
      refine ⟨_, _, rfl, rfl, .inr ⟨g, 0, rfl, World.block_lt_of_cell? W _ c0, fun t x hx => ?_⟩⟩
      rw [Nat.zero_add]
      match t, hx with
      | 0, hx => simp [ints] at hx; subst hx; exact c0
      | 1, hx => simp [ints] at hx; subst hx; exact c1
    have e0 := x6.two.1; have e1 := x6.two.2
    clear hz5 hb5 hb6 hlow6 x6 HOF hcn hgn
    have HX0 : Hid (∀ W, Below W6.heap.size W6 W → W.cell? ⟨w5.heap.size, 0, none⟩ = some (.slice xa cn xc) ∧ W.cell? ⟨w5.heap.size, 1, none⟩ = some (.slice ya gn yc)) := fun W hW => (HX6.out.keep hW).two
    obtain ⟨X, hX⟩ : ∃ X, writeL r [(a : Int), (b : Int)] [ofZ vals consts r] = X := ⟨_, rfl⟩
    obtain ⟨Y, hY⟩ : ∃ Y, writeL r [(b : Int), (a : Int)] [ofZ vals consts r] = Y := ⟨_, rfl⟩
    obtain ⟨NX, hNX⟩ : ∃ NX, X.length = NX := ⟨_, rfl⟩
    have hNY : Y.length = NX := by
      rw [← hNX, ← hX, ← hY]
      exact (order_len vals consts a b r (by rw [HN0.out]; omega) (by rw [HN0.out]; omega) (by rw [HN0.out]; omega) HAB.out k7 k8).symm
    have HWX : Hid (∀ (W : World) (g : Nat), Below W6.heap.size W6 W → W.cell? ⟨g, 0, none⟩ = some (.int .i64 a) → W.cell? ⟨g, 1, none⟩ = some (.int .i64 b) →
        Calls Tryz.prog 7 #[.agg #[.slice xa cn xc, .slice ya gn yc], .slice (some ⟨g, 0, none⟩) 2 2, .int .i64 r] W fun e w' => ∃ v', e = .returned v' ∧ ZIs w' v' X ∧ Below W6.heap.size W6 w' ∧ Below W.heap.size W w') := by
      intro W g hb c0 c1
      rw [← hX]
      exact (HWW.out W g a b hb c0 c1 HOK1.out).mono fun e w' ⟨v', h1, h2, h3⟩ => ⟨v', h1, h2, hb.trans (h3.mono hb.size), h3⟩
    have HWY : Hid (∀ (W : World) (g : Nat), Below W6.heap.size W6 W → W.cell? ⟨g, 0, none⟩ = some (.int .i64 b) → W.cell? ⟨g, 1, none⟩ = some (.int .i64 a) →
        Calls Tryz.prog 7 #[.agg #[.slice xa cn xc, .slice ya gn yc], .slice (some ⟨g, 0, none⟩) 2 2, .int .i64 r] W fun e w' => ∃ v', e = .returned v' ∧ ZIs w' v' Y ∧ Below W6.heap.size W6 w' ∧ Below W.heap.size W w') := by
      intro W g hb c0 c1
      rw [← hY]
      exact (HWW.out W g b a hb c0 c1 HOK2.out).mono fun e w' ⟨v', h1, h2, h3⟩ => ⟨v', h1, h2, hb.trans (h3.mono hb.size), h3⟩
    have HHX := Lib.hid hX; have HHY := Lib.hid hY; have HNX := Lib.hid hNX; have HNY := Lib.hid hNY
    have HC1 := Lib.hid (HWX.out ((W6.alloc (.cells #[.int .i64 a, .int .i64 b] 3)).drew) W6.heap.size (((Below.refl _ _).alloc (Nat.le_refl _) _).drew) (by show (W6.alloc _).cell? _ = _; rw [World.cell?_alloc_at _ _ _ _ (by simp)]; rfl) (by show (W6.alloc _).cell? _ = _; rw [World.cell?_alloc_at _ _ _ _ (by simp)]; rfl))
    have HC2 := Lib.hid (fun (W : World) (hW : Below W6.heap.size W6 W) => HWY.out (W.alloc (.cells #[.int .i64 b, .int .i64 a] 3)) W.heap.size (hW.alloc hW.size _) (by rw [World.cell?_alloc_at _ _ _ _ (by simp)]; rfl) (by rw [World.cell?_alloc_at _ _ _ _ (by simp)]; rfl))
    have q0 : ((W6.alloc (.cells #[.int .i64 a, .int .i64 b] 3)).alloc (.cells #[.int .i64 b, .int .i64 a] 3)).cell? ⟨W6.heap.size, 0, none⟩ = some (.int .i64 a) := ((Below.refl (W6.alloc (.cells #[.int .i64 a, .int .i64 b] 3)).heap.size _).alloc (Nat.le_refl _) _).cell (p := ⟨W6.heap.size, 0, none⟩) (by simp) |>.trans (by rw [World.cell?_alloc_at _ _ _ _ (by simp)]; rfl)
    have q1 : ((W6.alloc (.cells #[.int .i64 a, .int .i64 b] 3)).alloc (.cells #[.int .i64 b, .int .i64 a] 3)).cell? ⟨W6.heap.size, 1, none⟩ = some (.int .i64 b) := ((Below.refl (W6.alloc (.cells #[.int .i64 a, .int .i64 b] 3)).heap.size _).alloc (Nat.le_refl _) _).cell (p := ⟨W6.heap.size, 1, none⟩) (by simp) |>.trans (by rw [World.cell?_alloc_at _ _ _ _ (by simp)]; rfl)
    have q2 : ((W6.alloc (.cells #[.int .i64 a, .int .i64 b] 3)).alloc (.cells #[.int .i64 b, .int .i64 a] 3)).cell? ⟨W6.heap.size + 1, 0, none⟩ = some (.int .i64 b) := by rw [World.cell?_alloc_at _ _ _ _ (by simp)]; rfl
    have q3 : ((W6.alloc (.cells #[.int .i64 a, .int .i64 b] 3)).alloc (.cells #[.int .i64 b, .int .i64 a] 3)).cell? ⟨W6.heap.size + 1, 1, none⟩ = some (.int .i64 a) := by rw [World.cell?_alloc_at _ _ _ _ (by simp)]; rfl
    have HC4 := Lib.hid (HWX.out (((W6.alloc (.cells #[.int .i64 a, .int .i64 b] 3)).alloc (.cells #[.int .i64 b, .int .i64 a] 3)).drew) W6.heap.size ((((Below.refl _ _).alloc (Nat.le_refl _) _).alloc (by simp) _).drew) q0 q1)
    have HC5 := Lib.hid (fun (W : World) (hW : Below W6.heap.size W6 W) (hV : Below (((W6.alloc (.cells #[.int .i64 a, .int .i64 b] 3)).alloc (.cells #[.int .i64 b, .int .i64 a] 3)).drew).heap.size (((W6.alloc (.cells #[.int .i64 a, .int .i64 b] 3)).alloc (.cells #[.int .i64 b, .int .i64 a] 3)).drew) W) => HWY.out W (W6.heap.size + 1) hW ((hV.cell (p := ⟨W6.heap.size + 1, 0, none⟩) (World.block_lt_of_cell? ((W6.alloc (.cells #[.int .i64 a, .int .i64 b] 3)).alloc (.cells #[.int .i64 b, .int .i64 a] 3)) _ q2)).trans q2) ((hV.cell (p := ⟨W6.heap.size + 1, 1, none⟩) (World.block_lt_of_cell? ((W6.alloc (.cells #[.int .i64 a, .int .i64 b] 3)).alloc (.cells #[.int .i64 b, .int .i64 a] 3)) _ q3)).trans q3))
    have p0 : ((W6.alloc (.cells #[.int .i64 b, .int .i64 a] 3)).alloc (.cells #[.int .i64 a, .int .i64 b] 3)).cell? ⟨W6.heap.size, 0, none⟩ = some (.int .i64 b) := ((Below.refl (W6.alloc (.cells #[.int .i64 b, .int .i64 a] 3)).heap.size _).alloc (Nat.le_refl _) _).cell (p := ⟨W6.heap.size, 0, none⟩) (by simp) |>.trans (by rw [World.cell?_alloc_at _ _ _ _ (by simp)]; rfl)
    have p1 : ((W6.alloc (.cells #[.int .i64 b, .int .i64 a] 3)).alloc (.cells #[.int .i64 a, .int .i64 b] 3)).cell? ⟨W6.heap.size, 1, none⟩ = some (.int .i64 a) := ((Below.refl (W6.alloc (.cells #[.int .i64 b, .int .i64 a] 3)).heap.size _).alloc (Nat.le_refl _) _).cell (p := ⟨W6.heap.size, 1, none⟩) (by simp) |>.trans (by rw [World.cell?_alloc_at _ _ _ _ (by simp)]; rfl)
    have p2 : ((W6.alloc (.cells #[.int .i64 b, .int .i64 a] 3)).alloc (.cells #[.int .i64 a, .int .i64 b] 3)).cell? ⟨W6.heap.size + 1, 0, none⟩ = some (.int .i64 a) := by rw [World.cell?_alloc_at _ _ _ _ (by simp)]; rfl
    have p3 : ((W6.alloc (.cells #[.int .i64 b, .int .i64 a] 3)).alloc (.cells #[.int .i64 a, .int .i64 b] 3)).cell? ⟨W6.heap.size + 1, 1, none⟩ = some (.int .i64 b) := by rw [World.cell?_alloc_at _ _ _ _ (by simp)]; rfl
    have HC6 := Lib.hid (HWX.out (((W6.alloc (.cells #[.int .i64 b, .int .i64 a] 3)).alloc (.cells #[.int .i64 a, .int .i64 b] 3)).drew) (W6.heap.size + 1) ((((Below.refl _ _).alloc (Nat.le_refl _) _).alloc (by simp) _).drew) p2 p3)
    have HC7 := Lib.hid (fun (W : World) (hW : Below W6.heap.size W6 W) (hV : Below (((W6.alloc (.cells #[.int .i64 b, .int .i64 a] 3)).alloc (.cells #[.int .i64 a, .int .i64 b] 3)).drew).heap.size (((W6.alloc (.cells #[.int .i64 b, .int .i64 a] 3)).alloc (.cells #[.int .i64 a, .int .i64 b] 3)).drew) W) => HWY.out W W6.heap.size hW ((hV.cell (p := ⟨W6.heap.size, 0, none⟩) (World.block_lt_of_cell? ((W6.alloc (.cells #[.int .i64 b, .int .i64 a] 3)).alloc (.cells #[.int .i64 a, .int .i64 b] 3)) _ p0)).trans p0) ((hV.cell (p := ⟨W6.heap.size, 1, none⟩) (World.block_lt_of_cell? ((W6.alloc (.cells #[.int .i64 b, .int .i64 a] 3)).alloc (.cells #[.int .i64 a, .int .i64 b] 3)) _ p1)).trans p1))
    clear q0 q1 q2 q3 p0 p1 p2 p3
    have HC3 : Hid (∀ (W W' : World) (v : Value), ZIs W v X → Below (W.alloc (.cells #[.int .i64 b, .int .i64 a] 3)).heap.size (W.alloc (.cells #[.int .i64 b, .int .i64 a] 3)) W' → ZIs W' v X) := Lib.hid fun W W' v hz hb => hz.below (((Below.refl _ _).alloc (Nat.le_refl _) _).trans (hb.mono (by simp)))
    have hbz : Below W6.heap.size W6 W6.drew := (Below.refl _ _).drew
    clear HWW hX hY hNX hNY HWX HWY
    go_upto_region 5 with fail
    go_cut [11, 12] from 66 to 77 (fun v11 v12 wx => ∃ x1 c1 x2 c2, v11 = .slice x1 NX c1 ∧ v12 = .slice x2 NX c2 ∧ Hid (ZIs wx (.slice x1 NX c1) X) ∧ Hid (ZIs wx (.slice x2 NX c2) Y) ∧ Hid (Below W6.heap.size W6 wx))
    case first =>
      obtain ⟨m2, m3⟩ := HX0.out ((W6.alloc (.cells #[.int .i64 a, .int .i64 b] 3)).alloc (.cells #[.int .i64 b, .int .i64 a] 3)) (((Below.refl _ _).alloc (Nat.le_refl _) _).alloc (by simp) _)
      obtain ⟨m4, m5⟩ := HX0.out ((W6.alloc (.cells #[.int .i64 b, .int .i64 a] 3)).alloc (.cells #[.int .i64 a, .int .i64 b] 3)) (((Below.refl _ _).alloc (Nat.le_refl _) _).alloc (by simp) _)
      obtain ⟨m6, m7⟩ := HX0.out (W6.alloc (.cells #[.int .i64 b, .int .i64 a] 3)) ((Below.refl _ _).alloc (Nat.le_refl _) _)
      obtain ⟨m0, m1⟩ := HX0.out (W6.alloc (.cells #[.int .i64 a, .int .i64 b] 3)) ((Below.refl _ _).alloc (Nat.le_refl _) _)
      go_region_law (first
            | (go_simp; go_at_call 7
               (with_reducible refine HC1.out.mono ?_)
               rintro e w7 ⟨vx, rfl, hzx, hb7, hb8⟩
               obtain ⟨x1, c1, hvx⟩ := hzx.len
               rw [HNX.out] at hvx
               subst hvx
               obtain ⟨e2, e3⟩ := HX0.out w7 hb7
               obtain ⟨e4, e5⟩ := HX0.out (w7.alloc (.cells #[.int .i64 b, .int .i64 a] 3)) (hb7.alloc hb7.size _))
            | (go_simp; go_at_call 7
               (with_reducible refine HC4.out.mono ?_)
               rintro e w7 ⟨vx, rfl, hzx, hb7, hb8⟩
               obtain ⟨x1, c1, hvx⟩ := hzx.len
               rw [HNX.out] at hvx
               subst hvx
               obtain ⟨e2, e3⟩ := HX0.out w7 hb7)
            | (go_simp; go_at_call 7
               (with_reducible refine (HC5.out _ hb7 hb8).mono ?_)
               rintro e w8 ⟨vy, rfl, hzy, hb9, hb10⟩
               obtain ⟨x2, c2, hvy⟩ := hzy.len
               rw [HNY.out] at hvy
               subst hvy
               have hzx2 := hzx.below hb10)
            | (go_simp; go_at_call 7
               (with_reducible refine HC6.out.mono ?_)
               rintro e w7 ⟨vx, rfl, hzx, hb7, hb8⟩
               obtain ⟨x1, c1, hvx⟩ := hzx.len
               rw [HNX.out] at hvx
               subst hvx
               obtain ⟨e2, e3⟩ := HX0.out w7 hb7)
            | (go_simp; go_at_call 7
               (with_reducible refine (HC7.out _ hb7 hb8).mono ?_)
               rintro e w8 ⟨vy, rfl, hzy, hb9, hb10⟩
               obtain ⟨x2, c2, hvy⟩ := hzy.len
               rw [HNY.out] at hvy
               subst hvy
               have hzx2 := hzx.below hb10)
            | (go_simp; go_at_call 7
               (with_reducible refine (HC2.out _ hb7).mono ?_)
               rintro e w8 ⟨vy, rfl, hzy, hb9, hb10⟩
               obtain ⟨x2, c2, hvy⟩ := hzy.len
               rw [HNY.out] at hvy
               subst hvy
               have hzx2 := HC3.out _ _ _ hzx hb10
               have hbzz := hb9))
      all_goals
        go_wp2_with fail
        go_meet
        exact ⟨x1, c1, x2, c2, rfl, rfl, Lib.hid hzx2, Lib.hid hzy, Lib.hid hb9⟩
    case rest =>
      obtain ⟨x1, c1, x2, c2, rfl, rfl, HZX, HZY, HBX⟩ := hcut
      clear HC1 HC2 HC3 HC4 HC5 HC6 HC7 HX0 hbz e0 e1
      obtain ⟨w9, hw9⟩ : ∃ W, W = wc := ⟨_, rfl⟩
      subst hw9
      have HNB : Hid (NX ≤ 10000) := by
        unfold Hid
        rw [← HNX.out, ← HHX.out]; exact write_len vals consts a b r HOK1.out
      have HXE : Hid (∀ z ∈ X, z ∈ Y ∧ ∃ v : List Int, v.length = vals.length ∧ z = ofZ v consts (r - 2)) := Lib.hid fun z hz => by
        rw [← HHX.out] at hz
        rw [← HHY.out]
        exact order_sub vals consts a b r (by rw [HN0.out]; omega) (by rw [HN0.out]; omega) (by rw [HN0.out]; omega) HAB.out k7 k8 z hz
      have HYE : Hid (∀ z ∈ Y, SmallZ z) := Lib.hid fun z hz => by
        rw [← HHY.out] at hz
        obtain ⟨_, v, hv, rfl⟩ := order_sub vals consts b a r (by rw [HN0.out]; omega) (by rw [HN0.out]; omega) (by rw [HN0.out]; omega) (fun e => HAB.out e.symm) k7 k8 z hz
        have := ofZ_len v consts (r - 2)
        rw [hv, HN0.out, HN1.out] at this
        exact ⟨by omega, by omega⟩
      have HB9 := Lib.hid (HLOW6.out.trans (HBX.out.mono HLOW6.out.size))
      have HBW := Lib.hid (HBD.out.trans (HB9.out.mono HBD.out.size))
      have HT9 := Lib.hid (HTD.out.keep HB9.out)
      have HR9 := Lib.hid (HR1.out.below (Nat.le_refl _) HB9.out)
      have hnb := HNB.out
      clear HLOW6 HBX HX6 HZ6 HT6 HCV HR0 HOK1 HOK2
      go_wp2_with fail
      go_loopw [13] (fun i wr => ∃ k : Nat, k ≤ NX ∧ i = .int .i64 k ∧ Hid (Below w9.heap.size w9 wr)) (fun i _ => NX - (intOf i).toNat)
      case atStart => exact ⟨0, Nat.zero_le _, rfl, Below.refl _ _⟩
      case round =>
        obtain ⟨k, hk, rfl, HB⟩ := hrel
        by_cases hlt : k < NX
        · have hkn : (k : Int) < (NX : Int) := by omega
          have hk0 : (0 : Int) ≤ (k : Int) := by omega
          obtain ⟨z, hz⟩ : ∃ z, X[k]? = some z := ⟨_, List.getElem?_eq_getElem (by rw [HNX.out]; exact hlt)⟩
          obtain ⟨g, off, q1, q2, rfl, -, hgl, d0, d1, hzi⟩ := (HZX.out.below HB.out).at hz
          obtain ⟨hzY, v, hv, hze⟩ := HXE.out z (List.mem_of_getElem? hz)
          have hzs := HYE.out z hzY
          have hwr : IntKind.i64.wrap (r - 2) = r - 2 := by rw [IntKind.wrap_i64]; omega
          obtain ⟨s1, t1, hq1⟩ := hzi.1.1.len
          obtain ⟨s2, t2, hq2⟩ := hzi.1.2.len
          have hck : ∀ W, Below wr.heap.size wr W → Calls Tryz.prog 9 #[.agg #[q1, q2], .int .i64 n0, .slice ad1 n1 cap1, .int .i64 (r - 2)] W fun e w' => e = .returned (.bool true) ∧ Below W.heap.size W w' := by
            intro W hW
            have hn0 := HN0.out; have hn1 := HN1.out
            have hok := ofZ_chk v consts (r - 2) (by omega)
            have hln := ofZ_len v consts (r - 2)
            rw [← hze, hv, hn0] at hok
            rw [← hze, hv, hn0, hn1] at hln
            have hkk := kap_w3 r k7 k8
            exact zcheck_any (n0 : Int) (r - 2) (hzi.1.below hW) hzi.2 (HR9.out.below (Nat.le_refl _) (HB.out.trans (hW.mono HB.out.size))) (by omega) (fun x hx => HI.out x (List.mem_append_right _ hx)) (by omega) (by omega) (by omega) (by omega) hok
          have hha := hasI_any (HZY.out.below HB.out) hzi.1 HYE.out hzs (by rw [HNY.out]; omega)
          rw [decide_eq_true hzY] at hha
          obtain ⟨p1, hp1⟩ : ∃ p1, z.1.length = p1 := ⟨_, rfl⟩
          obtain ⟨p2, hp2⟩ : ∃ p2, z.2.length = p2 := ⟨_, rfl⟩
          rw [hp1] at hq1; rw [hp2] at hq2
          subst hq1; subst hq2
          have HCK := Lib.hid hck; have HHA := Lib.hid hha
          clear hz hzi hzY hv hze hzs hck hha hp1 hp2
          go_wp2_with fail
          refine HHA.out.mono ?_
          rintro e w1 ⟨rfl, hb1⟩
          have d2 := (hb1.cell (p := ⟨g, off + k * 2, none⟩) hgl).trans d0
          have d3 := (hb1.cell (p := ⟨g, off + k * 2 + 1, none⟩) hgl).trans d1
          have HCK1 := Lib.hid (HCK.out w1 hb1)
          have HB1 := Lib.hid (HB.out.trans (hb1.mono HB.out.size))
          clear hb1 d0 d1 HCK HHA
          go_wp2_with fail
          refine HCK1.out.mono ?_
          rintro e w2 ⟨rfl, hb2⟩
          have HB2 := Lib.hid (HB1.out.trans (hb2.mono HB1.out.size))
          clear hb2 d2 d3 HCK1
          go_wp2_with fail
          go_roundw
          case rel => exact ⟨k + 1, by omega, by go_num, HB2⟩
          case measure => simp [intOf]; omega
        · obtain rfl : k = NX := by omega
          have HAW := Lib.hid (awake25 (HT9.out.keep HB.out))
          go_wp2_with fail
          refine HAW.out.mono ?_
          rintro e w7 ⟨rfl, hb7⟩
          have HF := Lib.hid (HBW.out.trans ((HB.out.trans (hb7.mono HB.out.size)).mono HBW.out.size))
          clear hb7
          go_wp2_with fail
          go_ret
          exact ⟨rfl, HF.out⟩

end Go.Proofs.YtkkoooagamadjaaGreatDoor

namespace Go.Proofs.YtkkoooagamadjaaGreatDoor
open Go.RowKit Go.ChangeShapes Go.WideShapes Go.Deep

section
variable {H : Type} {enc : TypeId × Value → H} {w : World} {base : Nat} {sp : Nat → Bool} {hd : Bool}
theorem cel_i64Z : Tryz.prog.cellsOf 2 = 1 := by kernel_rfl
theorem Reads.of_rowE {w : World} {v : Value} {T : List Int} (h : RowE intE 1 w v T) : Reads w v (ints T) := by
  have hm := h.max
  obtain ⟨ad, cap, rfl, _, h⟩ := h
  rcases h with rfl | ⟨b, off, rfl, hb, hc⟩
  · exact .inl ⟨ad, cap, rfl, rfl⟩
  · refine .inr ⟨b, off, cap, by rw [ints_len], hb, by rw [ints_len]; exact hm, fun t x hx => ?_⟩
    unfold ints at hx
    rw [List.getElem?_map] at hx
    cases ht : T[t]? with
    | none => rw [ht] at hx; cases hx
    | some n =>
      rw [ht] at hx
      cases hx
      obtain ⟨cs, _, he, hcell⟩ := hc t n ht
      have he : cs = [.int .i64 n] := he
      subst he
      have := hcell 0 _ rfl
      rwa [Nat.mul_one, Nat.add_zero] at this
theorem open_i64s {fuel : Nat} {v : Value} {x : DataW H × List MemPlace} (h : DataW.trod enc Tryz.prog w base sp hd fuel 22 [v] = some x) : ∃ T : List Int, RowE intE 1 w v T ∧ ∀ n ∈ T, -9223372036854775808 ≤ n ∧ n ≤ 9223372036854775807 := by
  obtain ⟨T, hr, hp⟩ := open_rowE intE 1 (fun n => -9223372036854775808 ≤ n ∧ n ≤ 9223372036854775807) Tryz.underlying22 cel_i64Z (by decide) (fun fuel cs x _ h => by
    obtain ⟨a, ha, _, wf⟩ := DataW.trod_int Tryz.underlying2 h
    exact ⟨a, ha, bounds_i64 wf⟩) h
  exact ⟨T, hr, hp⟩
theorem mapM_intsZ {P : Program} {e : TypeId} {q : IntKind} (he : P.underlying e = some (.int q)) {m : Nat} {cs : List Value} {c : Nat} :
    ∀ (L : List Nat) (xs : List (DataW H × List MemPlace)), L.mapM (fun i => DataW.trod enc P w base sp hd m e ((cs.drop (i * c)).take c)) = some xs → ∀ i ∈ L, ∃ a, (cs.drop (i * c)).take c = [.int q a]
  | [], _, _, i, hi => by simp at hi
  | j :: L, xs, h, i, hi => by
    rw [List.mapM_cons] at h
    simp only [bind, Option.bind_eq_some_iff, pure, Option.some.injEq] at h
    obtain ⟨y, hy, ys, hys, rfl⟩ := h
    obtain ⟨a, ea, _, _⟩ := DataW.trod_int he hy
    rcases List.mem_cons.1 hi with rfl | hi
    · exact ⟨a, ea⟩
    · exact mapM_intsZ he L ys hys i hi
theorem open_arr3Z {P : Program} {k e : TypeId} {q : IntKind} (hu : P.underlying k = some (.array 3 e)) (he : P.underlying e = some (.int q)) (hone : P.cellsOf e = 1) (hsz : P.cellsOf k = 3)
    {xs : Array Value} (hn : xs.size = 3) {d : DataW H} {ps : List MemPlace} (hd : DataW.Trod enc P w base sp hd k (.agg xs) d ps) : ∃ a b c, xs = #[.int q a, .int q b, .int q c] := by
  obtain ⟨fuel, hf⟩ := hd
  cases fuel with
  | zero => simp [DataW.trod] at hf
  | succ m =>
    rw [DataW.trod_step] at hf
    unfold DataW.trodStep at hf
    simp only [hu, Value.cells] at hf
    rw [if_pos (by rw [hsz]; simpa using hn)] at hf
    simp only [Option.map_eq_some_iff] at hf
    obtain ⟨ys, hy, _⟩ := hf
    have h := mapM_intsZ he _ ys hy
    obtain ⟨x0, x1, x2, rfl⟩ : ∃ x0 x1 x2, xs = #[x0, x1, x2] := by
      obtain ⟨l⟩ := xs
      match l, hn with
      | [x0, x1, x2], _ => exact ⟨x0, x1, x2, rfl⟩
    obtain ⟨a, ha⟩ := h 0 (by simp)
    obtain ⟨b, hb⟩ := h 1 (by simp)
    obtain ⟨c, hc⟩ := h 2 (by simp)
    rw [hone] at ha hb hc
    simp at ha hb hc
    exact ⟨a, b, c, by rw [ha, hb, hc]⟩
end
end Go.Proofs.YtkkoooagamadjaaGreatDoor
