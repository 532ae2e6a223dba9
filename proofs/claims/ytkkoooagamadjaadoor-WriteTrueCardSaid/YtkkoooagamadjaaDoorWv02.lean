/- The law WriteTrue. -/
import Derived.Test.YtkkoooagamadjaaDoorWv01
import Derived.Test.YtkkoooagamadjaaDoorWu21

namespace Go.Proofs.YtkkoooagamadjaaDoor
open Go.RowKit Go.Shelf

theorem bounds_set (vals consts : List Int) (a b : Nat) (x y : Int) (hb : ∀ x ∈ consts ++ vals, -12 ≤ x ∧ x ≤ 12) (hx : -1000 ≤ x ∧ x ≤ 1000) (hy : -1000 ≤ y ∧ y ≤ 1000) : ∀ z ∈ (vals.set a x).set b y ++ consts, -9223372036854775808 ≤ z ∧ z ≤ 9223372036854775807 := by
  intro z hz
  rcases List.mem_append.1 hz with h | h
  · rcases List.mem_or_eq_of_mem_set h with h | rfl
    · rcases List.mem_or_eq_of_mem_set h with h | rfl
      · have := hb z (List.mem_append_right _ h); omega
      · omega
    · omega
  · have := hb z (List.mem_append_left _ h); omega
theorem set_ab (vals : List Int) (a b : Nat) (x y x' y' : Int) : (((vals.set a x).set b y).set a x').set b y' = (vals.set a x').set b y' := by
  apply List.ext_getElem?
  intro j
  simp only [List.getElem?_set, List.length_set]
  by_cases h1 : b = j
  · subst h1; simp
  · by_cases h2 : a = j
    · subst h2; simp [h1]
    · simp [h1, h2]
theorem get_int (row : List Int) (n a : Nat) (h : row.length = n) (ha : a < n) : ∃ y, row[a]? = some y := ⟨_, List.getElem?_eq_getElem (by omega)⟩

set_option maxRecDepth 100000 in
set_option maxHeartbeats 4000000 in
theorem writeTrue_any (v0 v1 : Value) (vals consts : List Int) (a b r : Int) (w : World) (ht : PTab w) (h0 : Reads w v0 (ints vals)) (h1 : Reads w v1 (ints consts)) :
    Calls Tryd.prog 4 #[v0, v1, .agg #[.int .i64 a, .int .i64 b, .int .i64 r]] w fun e w' => e = .returned (.bool true) ∧ Below w.heap.size w w' := by
  obtain ⟨ad0, cap0, e0, -⟩ := h0.len
  obtain ⟨ad1, cap1, e1, -⟩ := h1.len
  rw [ints_len] at e0 e1
  obtain ⟨n0, hn0⟩ : ∃ n, vals.length = n := ⟨_, rfl⟩
  obtain ⟨n1, hn1⟩ : ∃ n, consts.length = n := ⟨_, rfl⟩
  rw [hn0] at e0; rw [hn1] at e1
  subst e0; subst e1
  have hal0 := (Below.refl w.heap.size w).alloc (Nat.le_refl _) (.cells #[.int .i64 a, .int .i64 b, .int .i64 r] 35)
  have HN0 := Lib.hid hn0; have HN1 := Lib.hid hn1
  have H0 := Lib.hid h0; have H1 := Lib.hid h1; have HT := Lib.hid ht
  have HA0 := Lib.hid hal0
  clear hn0 hn1 h0 h1 hal0 ht
  have hcase : (4 < n0) ∨ (n0 ≤ 4 ∧ 3 < n1) ∨ (n0 ≤ 4 ∧ n1 ≤ 3 ∧ a < 0) ∨ (n0 ≤ 4 ∧ n1 ≤ 3 ∧ 0 ≤ a ∧ (n0 : Int) ≤ a) ∨ (n0 ≤ 4 ∧ n1 ≤ 3 ∧ 0 ≤ a ∧ a < n0 ∧ b < 0) ∨ (n0 ≤ 4 ∧ n1 ≤ 3 ∧ 0 ≤ a ∧ a < n0 ∧ 0 ≤ b ∧ (n0 : Int) ≤ b) ∨ (n0 ≤ 4 ∧ n1 ≤ 3 ∧ 0 ≤ a ∧ a < n0 ∧ 0 ≤ b ∧ b < n0 ∧ a = b) ∨
      (n0 ≤ 4 ∧ n1 ≤ 3 ∧ 0 ≤ a ∧ a < n0 ∧ 0 ≤ b ∧ b < n0 ∧ a ≠ b ∧ r < 2) ∨ (n0 ≤ 4 ∧ n1 ≤ 3 ∧ 0 ≤ a ∧ a < n0 ∧ 0 ≤ b ∧ b < n0 ∧ a ≠ b ∧ 2 ≤ r ∧ 3 < r) ∨ (n0 ≤ 4 ∧ n1 ≤ 3 ∧ 0 ≤ a ∧ a < n0 ∧ 0 ≤ b ∧ b < n0 ∧ a ≠ b ∧ 2 ≤ r ∧ r ≤ 3) := by
    by_cases q0 : 4 < n0
    · exact .inl q0
    replace q0 : n0 ≤ 4 := by omega
    by_cases q1 : 3 < n1
    · exact .inr (.inl ⟨q0, q1⟩)
    replace q1 : n1 ≤ 3 := by omega
    by_cases q2 : a < 0
    · exact .inr (.inr (.inl ⟨q0, q1, q2⟩))
    replace q2 : 0 ≤ a := by omega
    by_cases q3 : (n0 : Int) ≤ a
    · exact .inr (.inr (.inr (.inl ⟨q0, q1, q2, q3⟩)))
    replace q3 : a < n0 := by omega
    by_cases q4 : b < 0
    · exact .inr (.inr (.inr (.inr (.inl ⟨q0, q1, q2, q3, q4⟩))))
    replace q4 : 0 ≤ b := by omega
    by_cases q5 : (n0 : Int) ≤ b
    · exact .inr (.inr (.inr (.inr (.inr (.inl ⟨q0, q1, q2, q3, q4, q5⟩)))))
    replace q5 : b < n0 := by omega
    by_cases q6 : a = b
    · exact .inr (.inr (.inr (.inr (.inr (.inr (.inl ⟨q0, q1, q2, q3, q4, q5, q6⟩))))))
    by_cases q7 : r < 2
    · exact .inr (.inr (.inr (.inr (.inr (.inr (.inr (.inl ⟨q0, q1, q2, q3, q4, q5, q6, q7⟩)))))))
    replace q7 : 2 ≤ r := by omega
    by_cases q8 : 3 < r
    · exact .inr (.inr (.inr (.inr (.inr (.inr (.inr (.inr (.inl ⟨q0, q1, q2, q3, q4, q5, q6, q7, q8⟩))))))))
    · exact .inr (.inr (.inr (.inr (.inr (.inr (.inr (.inr (.inr ⟨q0, q1, q2, q3, q4, q5, q6, q7, by omega⟩))))))))
  rcases hcase with k0 | ⟨k0, k1⟩ | ⟨k0, k1, k2⟩ | ⟨k0, k1, k2, k3⟩ | ⟨k0, k1, k2, k3, k4⟩ | ⟨k0, k1, k2, k3, k4, k5⟩ | ⟨k0, k1, k2, k3, k4, k5, k6⟩ | ⟨k0, k1, k2, k3, k4, k5, k6, k7⟩ | ⟨k0, k1, k2, k3, k4, k5, k6, k7, k8⟩ | ⟨k0, k1, k2, k3, k4, k5, k6, k7, k8⟩
  · go_enter Tryd.func4, Tryd.ntmps4
    go_wp2
    go_quiet (fail)
    obtain ⟨wd, hwd⟩ : ∃ W, (w.alloc (.cells #[.int .i64 a, .int .i64 b, .int .i64 r] 35)).drewN nq = W := ⟨_, rfl⟩
    have HBD := Lib.hid (show Below w.heap.size w wd by rw [← hwd]; exact below_drewN HA0.out nq)
    rw [hwd]
    clear hwd
    have HAW := Lib.hid (awake25 (HT.out.keep HBD.out))
    go_wp2_with fail
    refine HAW.out.mono ?_
    rintro e w7 ⟨rfl, hb7⟩
    have HF := Lib.hid (HBD.out.trans (hb7.mono HBD.out.size))
    clear hb7
    go_wp2
    go_ret
    exact ⟨rfl, HF.out⟩
  · go_enter Tryd.func4, Tryd.ntmps4
    go_wp2
    go_quiet (fail)
    obtain ⟨wd, hwd⟩ : ∃ W, (w.alloc (.cells #[.int .i64 a, .int .i64 b, .int .i64 r] 35)).drewN nq = W := ⟨_, rfl⟩
    have HBD := Lib.hid (show Below w.heap.size w wd by rw [← hwd]; exact below_drewN HA0.out nq)
    rw [hwd]
    clear hwd
    have HAW := Lib.hid (awake25 (HT.out.keep HBD.out))
    go_wp2_with fail
    refine HAW.out.mono ?_
    rintro e w7 ⟨rfl, hb7⟩
    have HF := Lib.hid (HBD.out.trans (hb7.mono HBD.out.size))
    clear hb7
    go_wp2
    go_ret
    exact ⟨rfl, HF.out⟩
  · go_enter Tryd.func4, Tryd.ntmps4
    go_wp2
    go_quiet (fail)
    obtain ⟨wd, hwd⟩ : ∃ W, (w.alloc (.cells #[.int .i64 a, .int .i64 b, .int .i64 r] 35)).drewN nq = W := ⟨_, rfl⟩
    have HBD := Lib.hid (show Below w.heap.size w wd by rw [← hwd]; exact below_drewN HA0.out nq)
    rw [hwd]
    clear hwd
    have HAW := Lib.hid (awake25 (HT.out.keep HBD.out))
    go_wp2_with fail
    refine HAW.out.mono ?_
    rintro e w7 ⟨rfl, hb7⟩
    have HF := Lib.hid (HBD.out.trans (hb7.mono HBD.out.size))
    clear hb7
    go_wp2
    go_ret
    exact ⟨rfl, HF.out⟩
  · go_enter Tryd.func4, Tryd.ntmps4
    go_wp2
    go_quiet (fail)
    obtain ⟨wd, hwd⟩ : ∃ W, (w.alloc (.cells #[.int .i64 a, .int .i64 b, .int .i64 r] 35)).drewN nq = W := ⟨_, rfl⟩
    have HBD := Lib.hid (show Below w.heap.size w wd by rw [← hwd]; exact below_drewN HA0.out nq)
    rw [hwd]
    clear hwd
    have HAW := Lib.hid (awake25 (HT.out.keep HBD.out))
    go_wp2_with fail
    refine HAW.out.mono ?_
    rintro e w7 ⟨rfl, hb7⟩
    have HF := Lib.hid (HBD.out.trans (hb7.mono HBD.out.size))
    clear hb7
    go_wp2
    go_ret
    exact ⟨rfl, HF.out⟩
  · go_enter Tryd.func4, Tryd.ntmps4
    go_wp2
    go_quiet (fail)
    obtain ⟨wd, hwd⟩ : ∃ W, (w.alloc (.cells #[.int .i64 a, .int .i64 b, .int .i64 r] 35)).drewN nq = W := ⟨_, rfl⟩
    have HBD := Lib.hid (show Below w.heap.size w wd by rw [← hwd]; exact below_drewN HA0.out nq)
    rw [hwd]
    clear hwd
    have HAW := Lib.hid (awake25 (HT.out.keep HBD.out))
    go_wp2_with fail
    refine HAW.out.mono ?_
    rintro e w7 ⟨rfl, hb7⟩
    have HF := Lib.hid (HBD.out.trans (hb7.mono HBD.out.size))
    clear hb7
    go_wp2
    go_ret
    exact ⟨rfl, HF.out⟩
  · go_enter Tryd.func4, Tryd.ntmps4
    go_wp2
    go_quiet (fail)
    obtain ⟨wd, hwd⟩ : ∃ W, (w.alloc (.cells #[.int .i64 a, .int .i64 b, .int .i64 r] 35)).drewN nq = W := ⟨_, rfl⟩
    have HBD := Lib.hid (show Below w.heap.size w wd by rw [← hwd]; exact below_drewN HA0.out nq)
    rw [hwd]
    clear hwd
    have HAW := Lib.hid (awake25 (HT.out.keep HBD.out))
    go_wp2_with fail
    refine HAW.out.mono ?_
    rintro e w7 ⟨rfl, hb7⟩
    have HF := Lib.hid (HBD.out.trans (hb7.mono HBD.out.size))
    clear hb7
    go_wp2
    go_ret
    exact ⟨rfl, HF.out⟩
  · subst k6
    go_enter Tryd.func4, Tryd.ntmps4
    go_wp2
    go_quiet (fail)
    obtain ⟨wd, hwd⟩ : ∃ W, (w.alloc (.cells #[.int .i64 a, .int .i64 a, .int .i64 r] 35)).drewN nq = W := ⟨_, rfl⟩
    have HBD := Lib.hid (show Below w.heap.size w wd by rw [← hwd]; exact below_drewN HA0.out nq)
    rw [hwd]
    clear hwd
    have HAW := Lib.hid (awake25 (HT.out.keep HBD.out))
    go_wp2_with fail
    refine HAW.out.mono ?_
    rintro e w7 ⟨rfl, hb7⟩
    have HF := Lib.hid (HBD.out.trans (hb7.mono HBD.out.size))
    clear hb7
    go_wp2
    go_ret
    exact ⟨rfl, HF.out⟩
  · have hab : (a == b) = false := by simpa using k6
    clear k6
    go_enter Tryd.func4, Tryd.ntmps4
    go_wp2
    go_quiet (fail)
    obtain ⟨wd, hwd⟩ : ∃ W, (w.alloc (.cells #[.int .i64 a, .int .i64 b, .int .i64 r] 35)).drewN nq = W := ⟨_, rfl⟩
    have HBD := Lib.hid (show Below w.heap.size w wd by rw [← hwd]; exact below_drewN HA0.out nq)
    rw [hwd]
    clear hwd
    have HAW := Lib.hid (awake25 (HT.out.keep HBD.out))
    go_wp2_with fail
    refine HAW.out.mono ?_
    rintro e w7 ⟨rfl, hb7⟩
    have HF := Lib.hid (HBD.out.trans (hb7.mono HBD.out.size))
    clear hb7
    go_wp2
    go_ret
    exact ⟨rfl, HF.out⟩
  · have hab : (a == b) = false := by simpa using k6
    clear k6
    go_enter Tryd.func4, Tryd.ntmps4
    go_wp2
    go_quiet (fail)
    obtain ⟨wd, hwd⟩ : ∃ W, (w.alloc (.cells #[.int .i64 a, .int .i64 b, .int .i64 r] 35)).drewN nq = W := ⟨_, rfl⟩
    have HBD := Lib.hid (show Below w.heap.size w wd by rw [← hwd]; exact below_drewN HA0.out nq)
    rw [hwd]
    clear hwd
    have HAW := Lib.hid (awake25 (HT.out.keep HBD.out))
    go_wp2_with fail
    refine HAW.out.mono ?_
    rintro e w7 ⟨rfl, hb7⟩
    have HF := Lib.hid (HBD.out.trans (hb7.mono HBD.out.size))
    clear hb7
    go_wp2
    go_ret
    exact ⟨rfl, HF.out⟩
  · obtain ⟨a, rfl⟩ := Int.eq_ofNat_of_zero_le k2
    obtain ⟨b, rfl⟩ := Int.eq_ofNat_of_zero_le k4
    have hab : ((a : Int) == (b : Int)) = false := by simpa using k6
    have HAB : Hid (a ≠ b) := Lib.hid fun e => k6 (by rw [e])
    clear k6
    go_enter Tryd.func4, Tryd.ntmps4
    go_wp2
    go_quiet (fail)
    obtain ⟨wd, hwd⟩ : ∃ W, (w.alloc (.cells #[.int .i64 a, .int .i64 b, .int .i64 r] 35)).drewN nq = W := ⟨_, rfl⟩
    have hbd : Below w.heap.size w wd := by rw [← hwd]; exact below_drewN HA0.out nq
    have HBD := Lib.hid hbd
    rw [hwd]
    have HTD := Lib.hid (HT.out.keep hbd)
    have r0 := H0.out.below (Nat.le_refl _) hbd
    have r1 := H1.out.below (Nat.le_refl _) hbd
    have HR0 := Lib.hid r0; have HR1 := Lib.hid r1
    clear hwd HA0 H0 H1 HT hbd
    have hlen0 : (ints vals).length = n0 := by rw [ints_len]; exact HN0.out
    have hlen1 : (ints consts).length = n1 := by rw [ints_len]; exact HN1.out
    have hba : Below wd.heap.size wd (wd.alloc (.cells #[] 2)) := (Below.refl _ _).alloc (Nat.le_refl _) _
    have own0 : (wd.alloc (.cells #[] 2)).ownsRow wd.heap.size 2 1 (.slice (some ⟨wd.heap.size, 0, none⟩) 0 0) 0 [] := World.ownsRow_lit wd #[] 0 (Nat.le_refl _) (Nat.zero_le _) rfl
    have hsx : wd.heap.size ≤ (wd.alloc (.cells #[] 2)).heap.size := by simp
    have rx := r1.below (Nat.le_refl _) hba
    have HBA := Lib.hid hba
    clear r0 r1 hba
    go_wp2_with (first
      | (at_builtin; refine appR _ rfl _ _ 34 rfl wd.heap.size 2 (.int .i64 0) 8 Tryd.underlying34 info_int64 rfl (by decide) _ 0 [] rfl (by exact own0) _ _ rfl rx (ints_one _) (by rw [hlen1]; omega) hsx ?_; clear own0 rx hsx; intro va w3 hown3 hb3
         have hb3' : Below wd.heap.size wd w3 := HBA.out.trans hb3
         have HB3 := Lib.hid hb3'
         have rz := HR0.out.below (Nat.le_refl _) hb3'
         have hsz := hb3'.size
         clear hb3 hb3')
      | (at_builtin; refine appR _ rfl _ _ 34 rfl wd.heap.size 2 (.int .i64 0) 8 Tryd.underlying34 info_int64 rfl (by decide) _ _ _ rfl (by exact hown3) _ _ rfl rz (ints_one _) (by rw [hlen0, hlen1]; omega) hsz ?_; clear hown3 rz; intro vb w4 hown4 hb4
         have HB4 := Lib.hid (HB3.out.trans hb4)
         have HOA := Lib.hid (show w4.ownsRow wd.heap.size 2 1 vb (n1 + n0) (ints (consts ++ vals)) by
           rw [show ints (consts ++ vals) = ints consts ++ ints vals by simp [ints]]
           rw [hlen0, hlen1, Nat.zero_add, List.nil_append] at hown4; exact hown4)
         obtain ⟨bad, bcap, hvb⟩ := owns_len HOA.out
         subst hvb
         clear hown4 hb4 HB3 hsz)
      | fail)
    obtain ⟨N, hN⟩ : ∃ N, n1 + n0 = N := ⟨_, rfl⟩
    have HN := Lib.hid (show (consts ++ vals).length = N by rw [List.length_append, HN0.out, HN1.out, hN])
    rw [hN] at HOA
    have hN10 : N ≤ 10 := by omega
    simp only [hN]
    clear hN
    go_loopw [10, 11, 13] (fun lo hi i wr => ∃ (k : Nat) (l h : Int), lo = .int .i64 l ∧ hi = .int .i64 h ∧ i = .int .i64 k ∧ k ≤ N ∧ -12 ≤ l ∧ l ≤ 0 ∧ 0 ≤ h ∧ h ≤ 12 ∧ Hid (∀ j x, j < k → (consts ++ vals)[j]? = some x → l ≤ x ∧ x ≤ h) ∧ Hid (Below w4.heap.size w4 wr)) (fun _ _ i _ => N - (intOf i).toNat)
    case atStart => exact ⟨0, 0, 0, rfl, rfl, rfl, Nat.zero_le _, by omega, by omega, by omega, by omega, fun j x h => by omega, Below.refl _ _⟩
    case round =>
      obtain ⟨k, l, h, rfl, rfl, rfl, hk, hl1, hl2, hh1, hh2, HB, HW⟩ := hrel
      have HLW := Lib.hid (show Below wd.heap.size wd wr from HB4.out.trans (HW.out.mono HB4.out.size))
      by_cases hlt : k < N
      · have p1 : (k : Int) < (N : Int) := by omega
        obtain ⟨x, hx⟩ : ∃ x, (consts ++ vals)[k]? = some x := ⟨_, List.getElem?_eq_getElem (by rw [HN.out]; exact hlt)⟩
        have y1 := owns_below HOA.out HW.out
        obtain ⟨g, q1, t1⟩ := owns_slice y1 (by omega)
        cases t1
        have d1 : wr.cell? ⟨g, k, none⟩ = some (.int .i64 x) := by rw [y1.cellAt _ (by omega)]; unfold ints; rw [List.getElem?_map, hx]; rfl
        have HX := Lib.hid hx
        clear y1 hx
        by_cases hc1 : x < -12
        · have HAW := Lib.hid (awake25 (HTD.out.keep HLW.out))
          go_wp2_with fail
          refine HAW.out.mono ?_
          rintro e w7 ⟨rfl, hb7⟩
          have HF := Lib.hid (HBD.out.trans ((HLW.out.trans (hb7.mono HLW.out.size)).mono HBD.out.size))
          clear hb7
          go_wp2
          go_ret
          exact ⟨rfl, HF.out⟩
        by_cases hc2 : 12 < x
        · have HAW := Lib.hid (awake25 (HTD.out.keep HLW.out))
          go_wp2_with fail
          refine HAW.out.mono ?_
          rintro e w7 ⟨rfl, hb7⟩
          have HF := Lib.hid (HBD.out.trans ((HLW.out.trans (hb7.mono HLW.out.size)).mono HBD.out.size))
          clear hb7
          go_wp2
          go_ret
          exact ⟨rfl, HF.out⟩
        · have HB' : Hid (∀ j y, j < k + 1 → (consts ++ vals)[j]? = some y → min l x ≤ y ∧ y ≤ max h x) := Lib.hid fun j y hj hy => by
            by_cases hjk : j < k
            · have := HB.out j y hjk hy
              omega
            · obtain rfl : j = k := by omega
              have e := HX.out.symm.trans hy
              cases e
              omega
          clear HB HX HLW
          go_upto_region 11 with fail
          go_quiet (fail)
          go_wp2_with fail
          go_roundw
          case rel => exact ⟨k + 1, _, _, rfl, rfl, by go_num, by omega, by omega, by omega, by omega, by omega, HB', Lib.hid (below_drewN HW.out _)⟩
          case measure => simp [intOf]; omega
      · obtain rfl : k = N := by omega
        have hBD : ∀ x ∈ consts ++ vals, l ≤ x ∧ x ≤ h := fun x hx => by
          obtain ⟨j, hj, e⟩ := List.getElem_of_mem hx
          exact HB.out j x (by rw [← HN.out]; exact hj) (by rw [List.getElem?_eq_getElem hj, e])
        have hBD2 : ∀ x ∈ consts ++ vals, -12 ≤ x ∧ x ≤ 12 := fun x hx => by have := hBD x hx; omega
        have hof := rof_any (.slice ad0 n0 cap0) (.slice ad1 n1 cap1) vals consts r wr (HR0.out.below (Nat.le_refl _) HLW.out) (HR1.out.below (Nat.le_refl _) HLW.out) (by rw [HN0.out]; omega) (by rw [HN1.out]; omega) (fun x hx => by
          have := hBD2 x (by rcases List.mem_append.1 hx with h | h <;> simp [h]); omega)
        change Calls _ _ _ _ (fun e w' => ∃ u1 u2, e = .returned (.agg #[u1, u2]) ∧ ZoneAt w' wr.heap.size u1 u2 (ofZ vals consts r).1 (ofZ vals consts r).2 ∧ Below wr.heap.size wr w') at hof
        have HOF := Lib.hid hof
        have HBD1 := Lib.hid hBD; have HBD2 := Lib.hid hBD2
        have HOK := Lib.hid (true_ok vals consts a b r (by rw [HN0.out]; omega) (by rw [HN1.out]; omega) (by rw [HN0.out]; omega) (by rw [HN0.out]; omega) k7 k8 hBD2)
        have hrp : -1000 ≤ r ∧ r ≤ 1000 := by omega
        have HRP := Lib.hid hrp
        clear hBD hBD2 hof HB HW HOA HB4 hrp
        go_wp2_with fail
        refine (rcap_any r _).mono ?_
        rintro e w' ⟨rfl, rfl⟩
        obtain ⟨q, hq⟩ : ∃ q, kap r = q := ⟨_, rfl⟩
        have hks := kap_w3 r k7 k8
        rw [hq] at hks ⊢
        have hq7 := hks.2.2
        have HQ := Lib.hid hq
        clear hq hks
        go_wp2_with fail
        refine HOF.out.mono ?_
        rintro e w5 ⟨u1, u2, rfl, hz5, hb5⟩
        obtain ⟨xa, xc, hx1⟩ := owns_len hz5.1
        obtain ⟨ya, yc, hy1⟩ := owns_len hz5.2
        subst hx1; subst hy1
        obtain ⟨W6, hW6⟩ : ∃ W6, w5.alloc (.cells #[.int .i64 a, .int .i64 b] 3) = W6 := ⟨_, rfl⟩
        have hb6 : Below w5.heap.size w5 W6 := by rw [← hW6]; exact (Below.refl _ _).alloc (Nat.le_refl _) _
        have hl6 : RdK W6 1 (.slice (some ⟨w5.heap.size, 0, none⟩) 2 2) 2 (ints [(a : Int), (b : Int)]) := by
          refine ⟨_, _, rfl, rfl, .inr ⟨w5.heap.size, 0, rfl, by rw [← hW6]; simp, fun t x hx => ?_⟩⟩
          rw [← hW6, World.cell?_alloc_at _ _ _ _ (by simp)]
          simpa [ints] using hx
        have hlow6 : Below wd.heap.size wd W6 := (HLW.out.trans (hb5.mono HLW.out.size)).trans (hb6.mono (HLW.out.trans (hb5.mono HLW.out.size)).size)
        have HWR := Lib.hid (write_any (HTD.out.keep hlow6) r ((ZoneIn.of_at hz5).below hb6) hl6 (by simp) HRP.out.1 HRP.out.2 HOK.out)
        have HLOW6 := Lib.hid hlow6
        clear hz5 hb5 hb6 hl6 hlow6 HOF HLW
        go_wp2_with fail
        refine HWR.out.mono ?_
        rintro e w7 ⟨lv, rfl, hl7, hb7⟩
        have hLm := write_mem vals consts a b r (by rw [HN0.out]; omega) (by rw [HN0.out]; omega) (by rw [HN0.out]; omega) k7 (by omega)
        have hLc := write_comes vals consts a b r l h (by rw [HN0.out]; omega) (by rw [HN0.out]; omega) (by rw [HN0.out]; omega) k7 (by omega) (by omega) HBD1.out
        have hLo := write_nodup (a : Int) (b : Int) r [ofZ vals consts r]
        have hLn := write_len vals consts a b r HOK.out
        have hLs : ∀ z ∈ writeL r [(a : Int), (b : Int)] [ofZ vals consts r], SmallZ z := fun z hz => by
          obtain ⟨x, y, _, _, rfl⟩ := hLc z hz
          have := ofZ_len ((vals.set a x).set b y) consts (r - 2)
          rw [List.length_set, List.length_set, HN0.out, HN1.out] at this
          exact ⟨by omega, by omega⟩
        obtain ⟨L, hL⟩ : ∃ L, writeL r [(a : Int), (b : Int)] [ofZ vals consts r] = L := ⟨_, rfl⟩
        rw [hL] at hLm hLc hLo hLn hLs hl7
        rw [HQ.out] at hLc
        obtain ⟨lad, lcap, hlv⟩ := hl7.len
        subst hlv
        have HL7 := Lib.hid hl7
        have HLm := Lib.hid hLm; have HLc := Lib.hid hLc; have HLo := Lib.hid hLo; have HLn := Lib.hid hLn; have HLs := Lib.hid hLs
        have HLOW7 := Lib.hid (HLOW6.out.trans (hb7.mono HLOW6.out.size))
        have r7 := HR0.out.below (Nat.le_refl _) HLOW7.out
        have hba7 : Below w7.heap.size w7 (w7.alloc (.cells #[] 2)) := (Below.refl _ _).alloc (Nat.le_refl _) _
        have own7 : (w7.alloc (.cells #[] 2)).ownsRow w7.heap.size 2 1 (.slice (some ⟨w7.heap.size, 0, none⟩) 0 0) 0 [] := World.ownsRow_lit w7 #[] 0 (Nat.le_refl _) (Nat.zero_le _) rfl
        have rx7 := r7.below (Nat.le_refl _) hba7
        have hsx7 : w7.heap.size ≤ (w7.alloc (.cells #[] 2)).heap.size := by simp
        have HBA7 := Lib.hid hba7
        obtain ⟨M, hM⟩ : ∃ M, L.length = M := ⟨_, rfl⟩
        have HM := Lib.hid hM
        rw [hM] at HL7 ⊢
        clear hLm hLc hLo hLn hLs hL hl7 hb7 HLOW6 HWR r7 hba7 hM hW6
        go_wp2_with (first
          | (at_builtin; refine appR _ rfl _ _ 34 rfl w7.heap.size 2 (.int .i64 0) 8 Tryd.underlying34 info_int64 rfl (by decide) _ 0 [] rfl (by exact own7) _ _ rfl rx7 (ints_one _) (by rw [hlen0]; omega) hsx7 ?_; clear own7 rx7 hsx7; intro vv w8 hown8 hb8
             have HB8 := Lib.hid (HBA7.out.trans hb8)
             have HOV := Lib.hid (show w8.ownsRow w7.heap.size 2 1 vv n0 (ints vals) from by simpa [hlen0] using hown8)
             obtain ⟨vad, vcap, hvv⟩ := owns_len HOV.out
             subst hvv
             clear hown8 hb8)
          | fail)
        have hpt : PT w7 w8.heap.size (.slice vad n0 vcap) (.slice none 0 0) (.slice none 0 0) vals [] [] w8 := ⟨by rw [HN0.out]; exact HOV.out, ZonesAt.nil _ _, fun k hk => (by simp [Value.ownBlock] at hk), ZonesAt.nil _ _, HB8.out, HB8.out.size, Nat.le_refl _⟩
        obtain ⟨g, vcap', t1⟩ := owns_slice HOV.out (by omega)
        cases t1
        have HPT := Lib.hid hpt
        obtain ⟨T, hT⟩ : ∃ T : Nat, (T : Int) = h + ((q : Int) + 1) - (l - ((q : Int) + 1)) + 1 := ⟨(h + ((q : Int) + 1) - (l - ((q : Int) + 1)) + 1).toNat, by omega⟩
        have hT45 : T ≤ 45 := by omega
        have hwr : IntKind.i64.wrap (r - 2) = r - 2 := by rw [IntKind.wrap_i64]; omega
        have ha0 : a < n0 := by omega
        have hb0 : b < n0 := by omega
        have hai : (a : Int) < (n0 : Int) := by omega
        have hbi : (b : Int) < (n0 : Int) := by omega
        clear hpt HOV HB8
        go_wp2_with fail
        go_loopw [17, 18] (fun sv x wr => ∃ (k p : Nat) (S : List Zn) (row : List Int) (sad : Option Addr) (scap : Nat), sv = .slice sad p scap ∧ x = .int .i64 (l - ((q : Int) + 1) + k) ∧ k ≤ T ∧ p ≤ 10000 ∧ Hid (PT w7 w8.heap.size (.slice (some ⟨g, 0, none⟩) n0 vcap) (.slice none 0 0) (.slice sad p scap) row [] S wr ∧ S.length = p) ∧ Hid (row.length = n0 ∧ ∀ x y, (row.set a x).set b y = (vals.set a x).set b y) ∧ Hid (S.Nodup ∧ ∀ z ∈ S, z ∈ L) ∧
          Hid (∀ i j : Nat, i < k → j < T → ofZ ((vals.set a (l - ((q : Int) + 1) + i)).set b (l - ((q : Int) + 1) + j)) consts (r - 2) ∈ S)) (fun _ x _ => T - (intOf x - (l - ((q : Int) + 1))).toNat)
        case atStart => exact ⟨0, 0, [], vals, none, 0, rfl, int_eq (by omega), Nat.zero_le _, Nat.zero_le _, ⟨HPT.out, rfl⟩, ⟨HN0.out, fun _ _ => rfl⟩, ⟨List.nodup_nil, fun z hz => (by cases hz)⟩, fun i j hi => (by omega)⟩
        case round =>
          clear HPT
          obtain ⟨k, p, S, row, sad, scap, rfl, rfl, hk, hp, HP, HR, HD, HA⟩ := hrel
          by_cases hlt : k < T
          · obtain ⟨x, hx⟩ : ∃ x, l - ((q : Int) + 1) + (k : Int) = x := ⟨_, rfl⟩
            have hx1 : x ≤ h + ((q : Int) + 1) := by omega
            have hxb : -1000 ≤ x ∧ x ≤ 1000 := by omega
            have HXX : Hid (x + 1 = l - ((q : Int) + 1) + ((k + 1 : Nat) : Int)) := by unfold Hid; omega
            have HXK := Lib.hid hx
            have HXM : Hid (T - (x + 1 - (l - ((q : Int) + 1))).toNat < T - (x - (l - ((q : Int) + 1))).toNat) := by unfold Hid; omega
            rw [hx]
            clear hx
            obtain ⟨wo, rfl⟩ : ∃ w1, w1 = wr := ⟨_, rfl⟩
            go_wp2_with fail
            go_loopw [17, 19] (fun sv y wr => ∃ (m p : Nat) (S : List Zn) (row : List Int) (sad : Option Addr) (scap : Nat), sv = .slice sad p scap ∧ y = .int .i64 (l - ((q : Int) + 1) + m) ∧ m ≤ T ∧ p ≤ 10000 ∧ Hid (PT w7 w8.heap.size (.slice (some ⟨g, 0, none⟩) n0 vcap) (.slice none 0 0) (.slice sad p scap) row [] S wr ∧ S.length = p) ∧ Hid (row.length = n0 ∧ ∀ x y, (row.set a x).set b y = (vals.set a x).set b y) ∧ Hid (S.Nodup ∧ ∀ z ∈ S, z ∈ L) ∧
              Hid (∀ i j : Nat, (i < k ∧ j < T) ∨ (i = k ∧ j < m) → ofZ ((vals.set a (l - ((q : Int) + 1) + i)).set b (l - ((q : Int) + 1) + j)) consts (r - 2) ∈ S)) (fun _ y _ => T - (intOf y - (l - ((q : Int) + 1))).toNat)
            case atStart => exact ⟨0, p, S, row, sad, scap, rfl, int_eq (by omega), Nat.zero_le _, hp, HP, HR, HD, fun i j hij => HA.out i j (by omega) (by omega)⟩
            case round =>
              clear HP HR HD HA
              obtain ⟨m, p, S, row, sad, scap, rfl, rfl, hm, hp, HP, HR, HD, HA⟩ := hrel
              by_cases hlt2 : m < T
              · obtain ⟨y, hy⟩ : ∃ y, l - ((q : Int) + 1) + (m : Int) = y := ⟨_, rfl⟩
                have hy1 : y ≤ h + ((q : Int) + 1) := by omega
                have hyb : -1000 ≤ y ∧ y ≤ 1000 := by omega
                have HYY : Hid (y + 1 = l - ((q : Int) + 1) + ((m + 1 : Nat) : Int)) := by unfold Hid; omega
                have HYK := Lib.hid hy
                have HYM : Hid (T - (y + 1 - (l - ((q : Int) + 1))).toNat < T - (y - (l - ((q : Int) + 1))).toNat) := by unfold Hid; omega
                rw [hy]
                have hv0 := HP.out.1.v
                rw [HR.out.1] at hv0
                obtain ⟨ya, hya⟩ := get_int row n0 a HR.out.1 ha0
                have hca : wr.cell? ⟨g, a, none⟩ = some (.int .i64 ya) := by rw [hv0.cellAt a (by omega)]; unfold ints; rw [List.getElem?_map, hya]; rfl
                have hfa := hv0.frozenAt a
                obtain ⟨W1, hW1⟩ : ∃ W1, wr.setCell ⟨g, a, none⟩ (.int .i64 x) = W1 := ⟨_, rfl⟩
                have hp1 := HP.out.1.set a x
                rw [hW1] at hp1
                have hv1 := hp1.v
                rw [List.length_set, HR.out.1] at hv1
                obtain ⟨yb, hyb2⟩ := get_int (row.set a x) n0 b (by rw [List.length_set]; exact HR.out.1) hb0
                have hcb : W1.cell? ⟨g, b, none⟩ = some (.int .i64 yb) := by rw [hv1.cellAt b (by omega)]; unfold ints; rw [List.getElem?_map, hyb2]; rfl
                have hfb := hv1.frozenAt b
                obtain ⟨W2, hW2⟩ : ∃ W2, W1.setCell ⟨g, b, none⟩ (.int .i64 y) = W2 := ⟨_, rfl⟩
                have hp2 := hp1.set b y
                rw [hW2, HR.out.2 x y] at hp2
                have hlow2 : Below wd.heap.size wd W2 := HLOW7.out.trans (hp2.low.mono HLOW7.out.size)
                have hof := rof_any (.slice (some ⟨g, 0, none⟩) n0 vcap) (.slice ad1 n1 cap1) ((vals.set a x).set b y) consts (r - 2) W2 (Reads.of_owns (by have := hp2.v; rw [List.length_set, List.length_set, HN0.out] at this; exact this)) (HR1.out.below (Nat.le_refl _) hlow2) (by rw [List.length_set, List.length_set, HN0.out]; omega) (by rw [HN1.out]; omega) (bounds_set vals consts a b x y HBD2.out hxb hyb)
                change Calls _ _ _ _ (fun e w' => ∃ u1 u2, e = .returned (.agg #[u1, u2]) ∧ ZoneAt w' W2.heap.size u1 u2 (ofZ ((vals.set a x).set b y) consts (r - 2)).1 (ofZ ((vals.set a x).set b y) consts (r - 2)).2 ∧ Below W2.heap.size W2 w') at hof
                obtain ⟨Z, hZ⟩ : ∃ Z, ofZ ((vals.set a x).set b y) consts (r - 2) = Z := ⟨_, rfl⟩
                have hZs : SmallZ Z := by
                  have := ofZ_len ((vals.set a x).set b y) consts (r - 2)
                  rw [hZ, List.length_set, List.length_set, HN0.out, HN1.out] at this
                  exact ⟨by omega, by omega⟩
                have hZL : Z ∈ L := hZ ▸ HLm.out x y
                rw [hZ] at hof
                have HOF := Lib.hid hof; have HP2 := Lib.hid hp2; have HZ := Lib.hid hZ; have HZs := Lib.hid hZs; have HZL := Lib.hid hZL
                have HSs := Lib.hid (show ∀ z ∈ S, SmallZ z from fun z hz => HLs.out z (HD.out.2 z hz))
                have HSP := Lib.hid HP.out.2
                have HR' : Hid (((vals.set a x).set b y).length = n0 ∧ ∀ x' y', (((vals.set a x).set b y).set a x').set b y' = (vals.set a x').set b y') := Lib.hid ⟨by rw [List.length_set, List.length_set]; exact HN0.out, fun x' y' => set_ab vals a b x y x' y'⟩
                clear hv0 hv1 hp1 hp2 hof hZ hZs hZL hya hyb2 hlow2 HP HR hy
                go_wp2_with fail
                refine HOF.out.mono ?_
                rintro e w9 ⟨u1, u2, rfl, hz9, hb9⟩
                obtain ⟨xa, xc, e1⟩ := owns_len hz9.1
                obtain ⟨ya', yc, e2⟩ := owns_len hz9.2
                subst e1; subst e2
                have hal := (Below.refl w9.heap.size w9).alloc (Nat.le_refl _) (.cells #[.slice xa Z.1.length xc, .slice ya' Z.2.length yc] 26)
                have HZ8 := Lib.hid (hz9.below hal)
                have HP8 := Lib.hid ((HP2.out.below hb9).below hal)
                have HX8 := Lib.hid (Box2.new w9 (.slice xa Z.1.length xc) (.slice ya' Z.2.length yc))
                have hne : (Value.slice sad p scap).ownBlock ≠ some w9.heap.size := fun e => by
                  obtain ⟨ps, _, hr, _⟩ := HP2.out.s
                  have := (hr.lt _ e).2
                  have := hb9.size
                  omega
                have HNE := Lib.hid hne
                have HBB := Lib.hid (show w8.heap.size ≤ W2.heap.size from HP2.out.hs)
                clear hz9 hb9 hal hne HOF HP2 hca hcb hfa hfb hW1 hW2
                obtain ⟨w10, hw10⟩ : ∃ w10, w9.alloc (.cells #[.slice xa Z.1.length xc, .slice ya' Z.2.length yc] 26) = w10 := ⟨_, rfl⟩
                rw [hw10] at HZ8 HP8 HX8
                obtain ⟨bx, hbx⟩ : ∃ bx, w9.heap.size = bx := ⟨_, rfl⟩
                rw [hbx] at HX8 HNE
                have c0 := HX8.out.c0; have c1 := HX8.out.c1
                have HHA := Lib.hid (hasI_any HP8.out.s.zis (ZoneIn.of_at HZ8.out) HSs.out HZs.out (by rw [HSP.out]; omega))
                go_wp2_with fail
                refine HHA.out.mono ?_
                rintro e w11 ⟨rfl, hb11⟩
                have HP11 := Lib.hid (HP8.out.below hb11)
                have HZ11 := Lib.hid (HZ8.out.below hb11)
                have hx11 : Box2 w11 bx _ _ := (hb11.block _ HX8.out.lt).trans HX8.out
                have HX11 := Lib.hid hx11
                clear hb11 hx11 HHA HP8 HZ8 HX8 c0 c1 hw10 hbx
                by_cases hmem : Z ∈ S
                · rw [decide_eq_true hmem]
                  have HA' : Hid (∀ i j : Nat, (i < k ∧ j < T) ∨ (i = k ∧ j < m + 1) → ofZ ((vals.set a (l - ((q : Int) + 1) + i)).set b (l - ((q : Int) + 1) + j)) consts (r - 2) ∈ S) := Lib.hid fun i j hij => by
                    by_cases hjk : (i < k ∧ j < T) ∨ (i = k ∧ j < m)
                    · exact HA.out i j hjk
                    · obtain rfl : i = k := by omega
                      obtain rfl : j = m := by omega
                      rw [HXK.out, HYK.out, HZ.out]; exact hmem
                  clear hmem
                  go_wp2_with fail
                  go_roundw
                  case rel => exact ⟨m + 1, p, S, _, sad, scap, rfl, int_eq HYY.out, by omega, hp, ⟨HP11.out, HSP.out⟩, HR', HD, HA'⟩
                  case measure => have := HYM.out; simp [intOf]; omega
                · rw [decide_eq_false hmem]
                  have c0 := HX11.out.c0; have c1 := HX11.out.c1
                  have HHL := Lib.hid (hasI_any (HL7.out.below HP11.out.low) (ZoneIn.of_at HZ11.out) HLs.out HZs.out (by rw [HM.out]; have := HLn.out; rw [HM.out] at this; omega))
                  have HMEM := Lib.hid hmem
                  clear hmem
                  go_wp2_with fail
                  refine HHL.out.mono ?_
                  rintro e w12 ⟨rfl, hb12⟩
                  rw [decide_eq_true HZL.out]
                  have hx12 : Box2 w12 bx _ _ := (hb12.block _ HX11.out.lt).trans HX11.out
                  have d0 := hx12.c0; have d1 := hx12.c1
                  have HP12 := Lib.hid (HP11.out.below hb12)
                  have HZ12 := Lib.hid (HZ11.out.below hb12)
                  clear hb12 c0 c1 hx12 HX11 HP11 HZ11 HHL
                  obtain ⟨ad5, cap5, w13, hrun, hp13, -, -⟩ := HP12.out.app HZ12.out HBB.out (by rw [HSP.out]; omega) 22
                  rw [HSP.out] at hrun hp13
                  have hnd : (S ++ [Z]).Nodup := List.nodup_append.2 ⟨HD.out.1, by simp, fun u hu v hv e => by rw [List.mem_singleton] at hv; subst hv; subst e; exact HMEM.out hu⟩
                  have hsub : ∀ z ∈ S ++ [Z], z ∈ L := fun z hz => by
                    rcases List.mem_append.1 hz with h | h
                    · exact HD.out.2 z h
                    · rw [List.mem_singleton] at h; subst h; exact HZL.out
                  have hp1 : p + 1 ≤ 10000 := by
                    have h1 := nodup_sub_len (S ++ [Z]) L hnd hsub
                    rw [List.length_append, HSP.out] at h1
                    have h2 := HLn.out
                    simp only [List.length_cons, List.length_nil] at h1
                    omega
                  have HD' : Hid ((S ++ [Z]).Nodup ∧ ∀ z ∈ S ++ [Z], z ∈ L) := Lib.hid ⟨hnd, hsub⟩
                  have HSP' : Hid ((S ++ [Z]).length = p + 1) := by unfold Hid; rw [List.length_append, HSP.out]; rfl
                  have HA' : Hid (∀ i j : Nat, (i < k ∧ j < T) ∨ (i = k ∧ j < m + 1) → ofZ ((vals.set a (l - ((q : Int) + 1) + i)).set b (l - ((q : Int) + 1) + j)) consts (r - 2) ∈ S ++ [Z]) := Lib.hid fun i j hij => by
                    by_cases hjk : (i < k ∧ j < T) ∨ (i = k ∧ j < m)
                    · exact List.mem_append_left _ (HA.out i j hjk)
                    · obtain rfl : i = k := by omega
                      obtain rfl : j = m := by omega
                      rw [HXK.out, HYK.out, HZ.out]; simp
                  have HP13 := Lib.hid hp13
                  clear hnd hsub hp13
                  go_wp2_with (first | (at_builtin; refine wpList_append_known _ rfl _ _ _ _ rfl _ _ rfl rfl _ _ hrun ?_; clear hrun d0 d1) | fail)
                  go_roundw
                  case rel => exact ⟨m + 1, p + 1, S ++ [Z], _, ad5, cap5, rfl, int_eq HYY.out, by omega, hp1, ⟨HP13.out, HSP'.out⟩, HR', HD', HA'⟩
                  case measure => have := HYM.out; simp [intOf]; omega
              · obtain rfl : m = T := by omega
                have hy1 : ¬ (l - ((q : Int) + 1) + (m : Int) ≤ h + ((q : Int) + 1)) := by omega
                have HA' : Hid (∀ i j : Nat, i < k + 1 → j < m → ofZ ((vals.set a (l - ((q : Int) + 1) + i)).set b (l - ((q : Int) + 1) + j)) consts (r - 2) ∈ S) := Lib.hid fun i j hi hj => by
                  by_cases hik : i < k
                  · exact HA.out i j (.inl ⟨hik, hj⟩)
                  · exact HA.out i j (.inr ⟨by omega, hj⟩)
                go_wp2_with fail
                go_roundw
                case rel => exact ⟨k + 1, p, S, row, sad, scap, rfl, int_eq HXX.out, by omega, hp, HP, HR, HD, HA'⟩
                case measure => have := HXM.out; simp [intOf]; omega
          · obtain rfl : k = T := by omega
            have hx1 : ¬ (l - ((q : Int) + 1) + (k : Int) ≤ h + ((q : Int) + 1)) := by omega
            have hkk := hT
            have hlen : p = M := by
              rw [← HP.out.2, ← HM.out]
              refine nodup_len HD.out.1 HLo.out HD.out.2 fun z hz => ?_
              obtain ⟨x, y, ⟨hx1, hx2⟩, ⟨hy1, hy2⟩, rfl⟩ := HLc.out z hz
              have := HA.out (x - (l - ((q : Int) + 1))).toNat (y - (l - ((q : Int) + 1))).toNat (by omega) (by omega)
              rw [show l - ((q : Int) + 1) + (((x - (l - ((q : Int) + 1))).toNat : Nat) : Int) = x by omega, show l - ((q : Int) + 1) + (((y - (l - ((q : Int) + 1))).toNat : Nat) : Int) = y by omega] at this
              exact this
            subst hlen
            have HLW := Lib.hid (HLOW7.out.trans (HP.out.1.low.mono HLOW7.out.size))
            have HAW := Lib.hid (awake25 (HTD.out.keep HLW.out))
            clear HP HR HD HA
            go_wp2_with fail
            refine HAW.out.mono ?_
            rintro e w7 ⟨rfl, hb7⟩
            have HF := Lib.hid (HBD.out.trans ((HLW.out.trans (hb7.mono HLW.out.size)).mono HBD.out.size))
            clear hb7
            go_wp2
            go_ret
            exact ⟨rfl, HF.out⟩

end Go.Proofs.YtkkoooagamadjaaDoor
