/- HalveCaps, HalveSplits, HalveSame of warderlaw21 return true. -/
import Derived.Test.YtbhmimegcnfjcaaHalveLaw
namespace Go.Proofs.Ytbhmimegcnfjcaa
open Go.RowKit

set_option maxHeartbeats 2000000 in
theorem halveCaps_any (a b r : Int) (w : World) :
    Calls Try.prog 9 #[.int .i64 a, .int .i64 b, .int .i64 r] w fun e w' => e = .returned (.bool true) ∧ Below w.heap.size w w' := by
  obtain ⟨k, hk⟩ : ∃ k : Nat, kap r = k := ⟨_, rfl⟩
  have h1 := klip_bd a r
  have h2 := klip_bd b r
  have H : Hid (merge a b r = klip (klip a r + klip b r + 1) r) := Lib.hid rfl
  obtain ⟨x, hx⟩ : ∃ x, klip a r = x := ⟨_, rfl⟩
  obtain ⟨y, hy⟩ : ∃ y, klip b r = y := ⟨_, rfl⟩
  rw [hx] at h1 H; rw [hy] at h2 H
  obtain ⟨z, hz⟩ : ∃ z, klip (x + y + 1) r = z := ⟨_, rfl⟩
  rw [hz] at H
  have HK := Lib.hid hk; have HX := Lib.hid hx; have HY := Lib.hid hy; have HZ := Lib.hid hz
  clear hk hx hy hz
  obtain ⟨hx0, _, hx1⟩ := h1
  obtain ⟨hy0, _, hy1⟩ := h2
  go_enter Try.func9, Try.ntmps9
  go_wp2_with fail
  refine (cap_any r _).mono ?_; rintro e w' ⟨rfl, rfl⟩; rw [HK.out]
  go_wp2_with fail
  refine (rcap_any r _).mono ?_; rintro e w' ⟨rfl, rfl⟩; rw [HK.out]
  go_wp2_with fail
  refine (clip_any a r _).mono ?_; rintro e w' ⟨rfl, rfl⟩; rw [HX.out]
  go_wp2_with fail
  refine (rclip_any a r _).mono ?_; rintro e w' ⟨rfl, rfl⟩; rw [HX.out]
  go_wp2_with fail
  refine (merge_any a b r _).mono ?_; rintro e w' ⟨rfl, rfl⟩; rw [H.out]
  go_wp2_with fail
  refine (rclip_any a r _).mono ?_; rintro e w' ⟨rfl, rfl⟩; rw [HX.out]
  go_wp2_with fail
  refine (rclip_any b r _).mono ?_; rintro e w' ⟨rfl, rfl⟩; rw [HY.out]
  go_wp2_with fail
  refine (rclip_any _ r _).mono ?_; rintro e w' ⟨rfl, rfl⟩; rw [HZ.out]
  go_wp2_with fail
  refine (awake21 _).mono ?_; rintro e w' ⟨rfl, hb⟩
  go_wp2
  go_ret
  exact ⟨rfl, hb⟩

theorem reads_owned {w : World} {base n : Nat} {e : TypeId} {v : Value} {l : List Int} (h : w.ownsRow base e 1 v n (ints l)) : Reads w v (ints l) := Reads.of_owns h

set_option maxHeartbeats 4000000 in
theorem halveSplits_any (g r : Int) (w : World) (hr0 : -9223372036854775808 ≤ r) (hr2 : r ≤ 9223372036854775807) :
    Calls Try.prog 10 #[.int .i64 g, .int .i64 r] w fun e w' => e = .returned (.bool true) ∧ Below w.heap.size w w' := by
  by_cases h6 : 6 < r
  · go_enter Try.func10, Try.ntmps10
    go_wp2_with fail
    refine (awake21 _).mono ?_; rintro e w' ⟨rfl, hb⟩
    go_wp2
    go_ret
    exact ⟨rfl, hb⟩
  · obtain ⟨h, hh⟩ : ∃ h, kap (r - 1) = h := ⟨_, rfl⟩
    have hle := kap_le (r - 1)
    rw [hh] at hle
    obtain ⟨m, hm⟩ : ∃ m : Nat, (if r < 1 then 0 else h + 1) = m := ⟨_, rfl⟩
    have HR : Hid (outL r = (List.range m).map fun i : Nat => (i : Int)) := by
      unfold Hid outL; rw [hh, ← hm]; split <;> rfl
    have HH := Lib.hid hh
    have HSR := Lib.hid (spl_ref g r (by omega))
    have hml : m ≤ 1048576 := by split at hm <;> omega
    have hmr : (r < 1 ∧ m = 0) ∨ (1 ≤ r ∧ m = h + 1) := by split at hm <;> omega
    have hspl : (splP g r).length ≤ 8388608 := by
      rw [HSR.out]; unfold refP
      split
      · simp
      · have := gridK_bound (fun x => decide (x ∈ truP (if klip g r = kap r then 3 * klip g r + 3 else klip g r) r)) (kap (r - 1)) (kap (r - 1) + 1)
        unfold gridP
        have h31 : kap (r - 1) ≤ 31 := by
          have h1 : kap (r - 1) ≤ 2 ^ 5 - 1 := by
            unfold kap; have : (2 : Nat) ^ kapE (r - 1) ≤ 2 ^ 5 := Nat.pow_le_pow_right (by omega) (by unfold kapE; omega); omega
          omega
        have h2 : (kap (r - 1) + 1) * (kap (r - 1) + 1) ≤ 32 * 32 := Nat.mul_le_mul (by omega) (by omega)
        omega
    clear hh hm
    go_enter Try.func10, Try.ntmps10
    go_wp2
    go_loopw [5, 6] (fun v i wr => ∃ k : Nat, k ≤ m ∧ i = .int .i64 k ∧ wr.ownsRow w.heap.size 3 1 v k (ints ((List.range k).map fun i : Nat => (i : Int))) ∧ Below w.heap.size w wr) (fun _ i _ => m - (intOf i).toNat)
    case atStart => exact ⟨0, Nat.zero_le _, rfl, World.ownsRow_nil _ _ _ _, Below.refl _ _⟩
    case round =>
      obtain ⟨k, hk, rfl, hown, hb⟩ := hrel
      have hsz := hb.size
      by_cases hlt : k < m
      · have p0 : 1 ≤ r := by omega
        have p1 : (k : Int) ≤ (h : Int) := by omega
        have HM : Hid (ints ((List.range (k + 1)).map fun i : Nat => (i : Int)) = ints ((List.range k).map fun i : Nat => (i : Int)) ++ [.int .i64 k]) := by unfold Hid ints; rw [List.range_succ]; simp
        clear hmr
        go_wp2_with (first | (go_at_call 44; refine (rcap_any _ _).mono ?_; rintro e w' ⟨rfl, rfl⟩; rw [HH.out]) | (at_builtin; refine app1 _ #[.int .i64 k] rfl _ _ 22 rfl w.heap.size 3 (.int .i64 0) 1 8 Try.underlying22 info_int rfl (by decide) (by decide) _ _ _ rfl (by exact hown) rfl (by simp) rfl (by simp [Value.oneCell']) (by omega) hsz ?_; intro v' w1 hown' hg' hb'))
        go_roundw
        case rel => exact ⟨k + 1, by omega, by go_num, by rw [HM.out]; exact hown', hb.trans hb'⟩
        case measure => simp [intOf]; omega
      · obtain rfl : k = m := by omega
        have HO := Lib.hid (reads_owned hown)
        rw [← HR.out] at HO
        have HB := Lib.hid hb
        clear hown hb
        rcases hmr with ⟨q1, q2⟩ | ⟨q1, q2⟩
        case' inr => have p1 : ¬ ((k : Nat) : Int) ≤ (h : Int) := by omega
        all_goals
          clear q2
          go_wp2_with (go_at_call 44; refine (rcap_any _ _).mono ?_; rintro e w' ⟨rfl, rfl⟩; rw [HH.out])
          refine (splits_any g r _ hr2).mono ?_
          rintro e w2 ⟨v, rfl, hown, hb⟩
          rw [HSR.out] at hown hspl
          have HS := Lib.hid hown
          have HO2 := Lib.hid (HO.out.below (Nat.le_refl _) hb)
          have HB2 := Lib.hid (HB.out.trans (hb.mono HB.out.size))
          clear hown hb HO HB
          go_wp2_with fail
          refine (rpSplits_any g r _ (by omega)).mono ?_
          rintro e w3 ⟨v2, rfl, hown, hb⟩
          have HS3 := Lib.hid (owns_below HS.out hb)
          have HT3 := Lib.hid hown
          have HO3 := Lib.hid (HO2.out.below (Nat.le_refl _) hb)
          have HB3 := Lib.hid (HB2.out.trans (hb.mono HB2.out.size))
          clear hown hb HS HO2 HB2
          go_wp2_with fail
          refine (rpSame_eq _ _ _ _ (refP g r) _ HS3.out HT3.out hspl).mono ?_
          rintro e w4 ⟨rfl, hb⟩
          have HO4 := Lib.hid (HO3.out.below (Nat.le_refl _) hb)
          have HB4 := Lib.hid (HB3.out.trans (hb.mono HB3.out.size))
          clear hb HS3 HT3 HO3 HB3
          go_wp2_with fail
          refine (outer_any r _ hr2).mono ?_
          rintro e w5 ⟨v3, rfl, hown, hb⟩
          have HP5 := Lib.hid (reads_owned hown)
          have HO5 := Lib.hid (HO4.out.below (Nat.le_refl _) hb)
          have HB5 := Lib.hid (HB4.out.trans (hb.mono HB4.out.size))
          clear hown hb HO4 HB4
          go_wp2_with fail
          refine (same_eq _ _ (outL r) _ HP5.out HO5.out).mono ?_
          rintro e w6 ⟨rfl, hb⟩
          have HB6 := Lib.hid (HB5.out.trans (hb.mono HB5.out.size))
          clear hb HP5 HO5 HB5
          go_wp2_with fail
          refine (awake21 _).mono ?_
          rintro e w7 ⟨rfl, hb⟩
          have HB7 := Lib.hid (HB6.out.trans (hb.mono HB6.out.size))
          clear hb
          go_wp2
          go_ret
          exact ⟨rfl, HB7.out⟩

set_option maxHeartbeats 4000000 in
theorem halveSame_any (g r : Int) (w : World) :
    Calls Try.prog 8 #[.int .i64 g, .int .i64 r] w fun e w' => e = .returned (.bool true) ∧ Below w.heap.size w w' := by
  by_cases hin : 1 ≤ r ∧ r ≤ 6 ∧ 0 ≤ g ∧ g ≤ 400
  · obtain ⟨h1, h2, h3, h4⟩ := hin
    obtain ⟨b0, b1, b2⟩ := klip_bd g r
    have HSM := Lib.hid (spl_true_mem g r h1 (by omega) h3)
    have HSL := Lib.hid (spl_true_len g r h1 (by omega) h3)
    obtain ⟨n, hn⟩ : ∃ n : Nat, g = n := ⟨g.toNat, by omega⟩
    subst hn
    have htl : (truP n r).length ≤ n := by unfold truP; have := firstsP_len ((List.range (n : Int).toNat).map (ptP n (kap (r - 1)))); simpa using this
    obtain ⟨L, hL⟩ : ∃ L, splP (klip n r) r = L := ⟨_, rfl⟩
    obtain ⟨T, hT⟩ : ∃ T, truP n r = T := ⟨_, rfl⟩
    rw [hL, hT] at HSL
    rw [hT] at htl
    have HMM : Hid (∀ x, x ∈ L → x ∈ T) := by unfold Hid; intro x hx; rw [← hT, ← HSM.out x, hL]; exact hx
    obtain ⟨m, hm⟩ : ∃ m, L.length = m := ⟨_, rfl⟩
    have hml : m ≤ 400 := by rw [← hm, HSL.out]; omega
    have HLm := Lib.hid hm
    have HTm : Hid (T.length = m) := by unfold Hid; rw [← HSL.out, hm]
    have HL := Lib.hid hL
    have HT := Lib.hid hT
    obtain ⟨q, hq⟩ : ∃ q, klip n r = q := ⟨_, rfl⟩
    rw [hq] at HL b0 b1 b2
    have HQ := Lib.hid hq
    clear hL hT hm hq htl HSL HSM
    have hT8 : T.length ≤ 8388608 := by rw [HTm.out]; omega
    go_enter Try.func8, Try.ntmps8
    go_wp2_with fail
    refine (rclip_any _ _ _).mono ?_; rintro e w' ⟨rfl, rfl⟩; rw [HQ.out]
    go_wp2_with fail
    refine (splits_any q r _ (by omega)).mono ?_
    rintro e w2 ⟨v, rfl, hown, hb⟩
    rw [HL.out] at hown
    have HS := Lib.hid hown
    have HB2 := Lib.hid hb
    clear hown hb
    go_wp2_with fail
    refine (rpTrue_any n r _ (by omega) (by omega) (by omega)).mono ?_
    rintro e w3 ⟨v2, rfl, hown, hb⟩
    rw [HT.out] at hown
    have HS3 := Lib.hid (owns_below HS.out hb)
    have HT3 := Lib.hid hown
    have HB3 := Lib.hid (HB2.out.trans (hb.mono HB2.out.size))
    clear hown hb HS HB2
    have hz : Hid (∃ ad cap, v = .slice ad m cap) := by unfold Hid; have := owns_len HS3.out; rw [HLm.out] at this; exact this
    have hz2 : Hid (∃ ad cap, v2 = .slice ad m cap) := by unfold Hid; have := owns_len HT3.out; rw [HTm.out] at this; exact this
    obtain ⟨ad, cap, hv⟩ := hz.out
    obtain ⟨ad2, cap2, hv2⟩ := hz2.out
    subst hv; subst hv2
    clear hz hz2
    go_wp2
    go_loopw [7] (fun i wr => ∃ k : Nat, k ≤ m ∧ i = .int .i64 k ∧ Hid (Below w3.heap.size w3 wr)) (fun i _ => m - (intOf i).toNat)
    case atStart => exact ⟨0, Nat.zero_le _, rfl, Below.refl _ _⟩
    case round =>
      obtain ⟨k, hk, rfl, hb⟩ := hrel
      by_cases hlt : k < m
      · have hkl : k < L.length := by rw [HLm.out]; exact hlt
        obtain ⟨x, hx⟩ : ∃ x, L[k]? = some x := ⟨_, List.getElem?_eq_getElem hkl⟩
        have cx := cellsP_get _ _ _ hx
        obtain ⟨gg, cap', hsl⟩ := owns_slice HS3.out (by omega)
        obtain ⟨rfl, rfl⟩ : ad = some ⟨gg, 0, none⟩ ∧ cap = cap' := by cases hsl; exact ⟨rfl, rfl⟩
        have hgl : gg < w3.heap.size := (HS3.out.lt gg rfl).2
        have hcl : ∀ j, j < m * 2 → wr.cell? ⟨gg, j, none⟩ = (cellsP L)[j]? := fun j hj => by
          have hS := HS3.out
          rw [HLm.out] at hS
          exact (hb.out.cell (p := ⟨gg, j, none⟩) hgl).trans (hS.cellAt _ hj)
        have c1 : wr.cell? ⟨gg, k * 2, none⟩ = some (.int .i64 x.1) := (hcl _ (by omega)).trans cx.1
        have c2 : wr.cell? ⟨gg, k * 2 + 1, none⟩ = some (.int .i64 x.2) := (hcl _ (by omega)).trans cx.2
        have p1 : (k : Int) < (m : Int) := by omega
        have hmem : decide ((x.1, x.2) ∈ T) = true := decide_eq_true (HMM.out x (List.mem_of_getElem? hx))
        have HX := Lib.hid hmem
        have HHas : ∀ q, Hid (Calls Try.prog 42 #[.slice ad2 m cap2, .int .i64 x.1, .int .i64 x.2] (wr.drewN q) fun e w' => e = .returned (.bool true) ∧ w' = wr.drewN q) := fun q => Lib.hid ((rpHas_any w2.heap.size _ T x.1 x.2 (wr.drewN q) (owns_below HT3.out (below_drewN hb.out q)) hT8).mono fun e w' h => ⟨h.1.trans (by rw [HX.out]), h.2.symm⟩)
        clear hcl cx hx hsl hmem
        go_wp2
        go_quiet ((go_at_call 42; exact Calls.quiet_of_same (HHas _).out))
        go_wp2
        go_roundw
        case rel => exact ⟨k + 1, by omega, by go_num, Lib.hid (below_drewN hb.out _)⟩
        case measure => simp [intOf]; omega
      · obtain rfl : k = m := by omega
        go_wp2_with fail
        refine (awake21 _).mono ?_
        rintro e w7 ⟨rfl, hb7⟩
        have HB7 := Lib.hid ((HB3.out.trans (hb.out.mono HB3.out.size)).trans (hb7.mono (Nat.le_trans HB3.out.size hb.out.size)))
        clear hb7
        go_wp2
        go_ret
        exact ⟨rfl, HB7.out⟩
  · have hout : r < 1 ∨ (1 ≤ r ∧ 6 < r) ∨ (1 ≤ r ∧ r ≤ 6 ∧ g < 0) ∨ (1 ≤ r ∧ r ≤ 6 ∧ 0 ≤ g ∧ 400 < g) := by omega
    clear hin
    rcases hout with h | ⟨h, h1⟩ | ⟨h, h1, h2⟩ | ⟨h, h1, h2, h3⟩
    all_goals
      go_enter Try.func8, Try.ntmps8
      go_wp2_with fail
      refine (awake21 _).mono ?_
      rintro e w7 ⟨rfl, hb7⟩
      go_wp2
      go_ret
      exact ⟨rfl, hb7⟩

end Go.Proofs.Ytbhmimegcnfjcaa
