/- The law ShrinkLists. -/
import Derived.Test.YtjmggphnngffjaaShr5
namespace Go.Proofs.Ytjmggphnngffjaa
open Go.RowKit

theorem shr_mem (p : List Sm → Bool) : ∀ (k : Nat) (L : List Sm) {y : Sm}, y ∈ runS p k L → y ∈ L
  | 0, L, y, h => h
  | k + 1, L, y, h => by
    rw [runS] at h
    split at h
    · exact h
    · exact passS_mem p _ L (shr_mem p k _ h)
theorem shrink_mem {p : List Sm → Bool} {L : List Sm} {y : Sm} (h : y ∈ shrinkS p L) : y ∈ L := by
  unfold shrinkS at h
  split at h
  · exact shr_mem p _ L h
  · exact h
theorem run_len (p : List Sm → Bool) : ∀ (k : Nat) (L : List Sm), (runS p k L).length ≤ L.length
  | 0, L => Nat.le_refl _
  | k + 1, L => by
    rw [runS]
    split
    · exact Nat.le_refl _
    · exact Nat.le_trans (run_len p k _) (passS_len p _ L (Nat.le_refl _))
theorem shrink_len (p : List Sm → Bool) (L : List Sm) : (shrinkS p L).length ≤ L.length := by
  unfold shrinkS
  split
  · exact run_len p _ L
  · exact Nat.le_refl _

set_option maxRecDepth 100000 in
set_option maxHeartbeats 4000000 in
theorem lawShr_any {w : World} {v : Value} {L : List Sm} (h : SmIn w v L) (hok : ∀ y ∈ L, SmOK w y ∧ SmLen y) (kind n : Int) :
    Calls Try.prog 3 #[v, .int .i64 kind, .int .i64 n] w fun e w' => e = .returned (.bool true) ∧ Below w.heap.size w w' := by
  obtain ⟨W0, hW0⟩ : ∃ W0, (w.alloc (.cells #[.int .i64 kind] 3)).alloc (.cells #[.int .i64 n] 3) = W0 := ⟨_, rfl⟩
  have hp : Blk W0 w.heap.size #[.int .i64 kind] 3 := by rw [← hW0]; exact (Blk.new w _ _).alloc _
  have hq : Blk W0 (w.heap.size + 1) #[.int .i64 n] 3 := by
    rw [← hW0]
    have := Blk.new (w.alloc (.cells #[.int .i64 kind] 3)) #[.int .i64 n] 3
    simpa using this
  have hb0 : Below w.heap.size w W0 := by rw [← hW0]; exact ((Below.refl _ w).alloc (Nat.le_refl _) _).alloc (by simp) _
  have HB0 := Lib.hid hb0
  have HI := Lib.hid h
  have HOK := Lib.hid hok
  have HAW := Lib.hid (fun (W : World) => awake48 W)
  obtain ⟨ad, cap, hv⟩ := h.len
  subst hv
  by_cases hbig : (25 : Int) < (L.length : Int)
  · clear h hok hp hq hb0
    go_enter Try.func3, Try.ntmps3
    go_upto_region 1 with fail
    clear hW0
    go_wp2_with fail
    refine (HAW.out _).mono ?_
    rintro e w2 ⟨rfl, hb2⟩
    have HB2 := Lib.hid (HB0.out.trans (hb2.mono HB0.out.size))
    clear hb2
    go_wp2
    go_ret
    exact ⟨rfl, HB2.out⟩
  have hone : ∀ y ∈ L, SmOne y := fun y hy => (hok y hy).1.one
  have hll : L.length ≤ 25 := by omega
  have HLF := Lib.hid (list_few (h.keep hb0) hone (by omega) hp hq)
  obtain ⟨R, hR⟩ : ∃ R, shrinkS (fewB kind n) L = R := ⟨_, rfl⟩
  have HRM : Hid ((∀ y ∈ R, y ∈ L) ∧ R.length ≤ 9223372036854775807) := by
    rw [← hR]
    refine ⟨fun y hy => shrink_mem hy, ?_⟩
    have := shrink_len (fewB kind n) L
    omega
  have HRS := Lib.hid (fun (W : World) (u : Value) (hu : SmIn W u L) => rshrink_any hu hone (by omega) kind n)
  have HLN := Lib.hid (fun (W : World) (u : Value) (hu : SmIn W u L) => list_nil hu hone (by omega))
  rw [hR] at HLF HRS
  have HP := Lib.hid hp
  have HQ := Lib.hid hq
  have hL9 : L.length ≤ 9223372036854775807 := by omega
  clear h hok hp hq hb0 hone hR
  go_enter Try.func3, Try.ntmps3
  go_upto_region 1 with fail
  clear hW0
  go_wp2_with fail
  refine HLF.out.mono ?_
  rintro e w1 ⟨v1, rfl, hi1, hb1⟩
  have HB1 := Lib.hid (HB0.out.trans (hb1.mono HB0.out.size))
  have HI1 := Lib.hid hi1
  have c0 : w1.cell? ⟨w.heap.size, 0, none⟩ = some (.int .i64 kind) := (HP.out.keep hb1).cell rfl
  have c1 : w1.cell? ⟨w.heap.size + 1, 0, none⟩ = some (.int .i64 n) := (HQ.out.keep hb1).cell rfl
  clear hi1 hb1
  go_wp2_with fail
  refine (HRS.out _ _ (HI.out.keep HB1.out)).mono ?_
  rintro e w2 ⟨v2, rfl, hi2, hb2⟩
  have HB2 := Lib.hid (HB1.out.trans (hb2.mono HB1.out.size))
  have HI2 := Lib.hid hi2
  have HI12 := Lib.hid (HI1.out.keep hb2)
  clear hi2 hb2 c0 c1
  go_wp2_with fail
  refine (same07_in HI12.out HI2.out (fun x hx => ⟨(HOK.out x (HRM.out.1 x hx)).1.keep HB2.out, (HOK.out x (HRM.out.1 x hx)).2⟩) HRM.out.2).mono ?_
  rintro e w3 ⟨rfl, hb3⟩
  have HB3 := Lib.hid (HB2.out.trans (hb3.mono HB2.out.size))
  clear hb3
  go_wp2_with fail
  refine (HLN.out _ _ (HI.out.keep HB3.out)).mono ?_
  rintro e w4 ⟨v4, rfl, hi4, hb4⟩
  have HB4 := Lib.hid (HB3.out.trans (hb4.mono HB3.out.size))
  have HI4 := Lib.hid hi4
  clear hi4 hb4
  go_wp2_with fail
  refine (same07_in HI4.out (HI.out.keep HB4.out) (fun x hx => ⟨(HOK.out x hx).1.keep HB4.out, (HOK.out x hx).2⟩) hL9).mono ?_
  rintro e w5 ⟨rfl, hb5⟩
  have HB5 := Lib.hid (HB4.out.trans (hb5.mono HB4.out.size))
  clear hb5
  go_wp2_with fail
  refine (HAW.out _).mono ?_
  rintro e w6 ⟨rfl, hb6⟩
  have HB6 := Lib.hid (HB5.out.trans (hb6.mono HB5.out.size))
  clear hb6
  go_wp2
  go_ret
  exact ⟨rfl, HB6.out⟩

end Go.Proofs.Ytjmggphnngffjaa
