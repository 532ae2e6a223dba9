/- Contracts of show's held.in and two. -/
import Derived.Test.YthhjepgcbfmfeaaGreatDoorSb26
import Derived.Deep.RegionHeld3

namespace Go.Proofs.YthhjepgcbfmfeaaGreatDoor
open Go.RowKit

theorem inF_no {t least : Int} {s : ByteArray} (h : ¬ t < least) : inF t least s = s := by unfold inF brk8; rw [decide_eq_false h]; rfl
theorem inF_yes {t least : Int} {s : ByteArray} (h : t < least) : inF t least s = (⟨#[40]⟩ : ByteArray) ++ s ++ (⟨#[41]⟩ : ByteArray) := by unfold inF brk8; rw [decide_eq_true h]; rfl

set_option maxRecDepth 100000 in
set_option maxHeartbeats 1000000 in
theorem in_any (w : World) (t must : Int) (s : ByteArray) (hs : s.size ≤ 1000000) :
    Calls Tryz.prog 20 #[.agg #[.int .i64 t, .string s], .int .i64 must] w fun e w' => e = .returned (.string (inF t must s)) ∧ Below w.heap.size w w' := by
  have hb0 : Below w.heap.size w (w.alloc (.cells #[.int .i64 t, .string s] 47)) := (Below.refl _ w).alloc (Nat.le_refl _) _
  have HB0 := Lib.hid hb0
  have hsz : ¬ 9223372036854775807 < 1 + s.size := by omega
  have hsz2 : ¬ 9223372036854775807 < 1 + s.size + 1 := by omega
  clear hb0
  by_cases h : t < must
  · have H := Lib.hid (inF_yes (s := s) h)
    have hd : decide (t < must) = true := decide_eq_true h
    rw [H.out]
    clear h
    go_enter Tryz.func20, Tryz.ntmps20
    go_wp2
    go_ret
    exact ⟨rfl, HB0.out⟩
  · have H := Lib.hid (inF_no (s := s) h)
    have hd : decide (t < must) = false := decide_eq_false h
    rw [H.out]
    clear h
    go_enter Tryz.func20, Tryz.ntmps20
    go_wp2
    go_ret
    exact ⟨rfl, HB0.out⟩

theorem twoTx_16 (tf : Int) (f : ByteArray) (tg : Int) (g : ByteArray) : twoTx 16 tf f tg g = inF tf 3 f ++ sp8 ++ signB 16 ++ sp8 ++ inF tg 4 g := rfl
theorem twoTx_17 (tf : Int) (f : ByteArray) (tg : Int) (g : ByteArray) : twoTx 17 tf f tg g = inF tf 2 f ++ sp8 ++ signB 17 ++ sp8 ++ inF tg 3 g := rfl
theorem twoTx_18 (tf : Int) (f : ByteArray) (tg : Int) (g : ByteArray) : twoTx 18 tf f tg g = inF tf 2 f ++ sp8 ++ signB 18 ++ sp8 ++ inF tg 1 g := rfl

theorem twoTx_25 (tf : Int) (f : ByteArray) (tg : Int) (g : ByteArray) : twoTx 25 tf f tg g = signB 25 ++ (⟨#[32, 91]⟩ : ByteArray) ++ f ++ (⟨#[32, 85, 32]⟩ : ByteArray) ++ g ++ (⟨#[93]⟩ : ByteArray) := rfl
theorem twoTx_26 (tf : Int) (f : ByteArray) (tg : Int) (g : ByteArray) : twoTx 26 tf f tg g = signB 26 ++ (⟨#[32, 91]⟩ : ByteArray) ++ f ++ (⟨#[32, 85, 32]⟩ : ByteArray) ++ g ++ (⟨#[93]⟩ : ByteArray) := rfl

set_option maxRecDepth 100000 in
set_option maxHeartbeats 4000000 in
theorem two_16 {w : World} (ht : Tabs w) (ta tb : Int) (sa sb : ByteArray) (ha : sa.size ≤ 100000) (hb : sb.size ≤ 100000) :
    Calls Tryz.prog 21 #[.int .i64 16, .agg #[.int .i64 ta, .string sa], .agg #[.int .i64 tb, .string sb]] w fun e w' => e = .returned (.agg #[.int .i64 3, .string (twoTx 16 ta sa tb sb)]) ∧ Below w.heap.size w w' := by
  obtain ⟨W0, hW0⟩ : ∃ W, (((w.alloc (.cells #[.int .i64 ta, .string sa] 47)).alloc (.cells #[.int .i64 tb, .string sb] 47)).alloc (.cells #[.int .i64 0, .string ⟨#[]⟩] 47)) = W := ⟨_, rfl⟩
  have hA : Blk W0 w.heap.size #[.int .i64 ta, .string sa] 47 := by rw [← hW0]; exact ((Blk.new w _ _).alloc _).alloc _
  have hB : Blk W0 (w.heap.size + 1) #[.int .i64 tb, .string sb] 47 := by
    rw [← hW0]
    have := (Blk.new (w.alloc (.cells #[.int .i64 ta, .string sa] 47)) #[.int .i64 tb, .string sb] 47).alloc (.cells #[.int .i64 0, .string ⟨#[]⟩] 47)
    simpa using this
  have hC : Blk W0 (w.heap.size + 1 + 1) #[.int .i64 0, .string ⟨#[]⟩] 47 := by
    rw [← hW0]
    have := (Blk.new ((w.alloc (.cells #[.int .i64 ta, .string sa] 47)).alloc (.cells #[.int .i64 tb, .string sb] 47)) #[.int .i64 0, .string ⟨#[]⟩] 47)
    simpa using this
  have hb0 : Below w.heap.size w W0 := by rw [← hW0]; exact (((Below.refl _ w).alloc (Nat.le_refl _) _).alloc (by simp) _).alloc (by simp; omega) _
  have HB0 := Lib.hid hb0
  have HS := Lib.hid (sh_sign_any (ht.keep hb0) 16)
  have HI := Lib.hid (fun (W : World) (t m : Int) (s : ByteArray) (hs : s.size ≤ 100000) => in_any W t m s (by omega))
  have HP := Lib.hid (twoTx_16 ta sa tb sb)
  obtain ⟨s16, hs16⟩ : ∃ s, signB 16 = s := ⟨_, rfl⟩
  have hs16l : s16.size ≤ 8 := by rw [← hs16]; exact signB_size 16
  obtain ⟨ia, hia⟩ : ∃ s, inF ta 3 sa = s := ⟨_, rfl⟩
  have hial : ia.size ≤ 100002 := by rw [← hia]; have := inF_size ta 3 sa; omega
  obtain ⟨ib, hib⟩ : ∃ s, inF tb 4 sb = s := ⟨_, rfl⟩
  have hibl : ib.size ≤ 100002 := by rw [← hib]; have := inF_size tb 4 sb; omega
  have HIA := Lib.hid (hia); have HIB := Lib.hid hib; have HS16 := Lib.hid hs16
  rw [hia, hib, hs16] at HP
  rw [hs16] at HS
  rw [HP.out]
  have HKA := Lib.hid hA; have HKB := Lib.hid hB; have HKC := Lib.hid hC
  have n1 : ¬ 9223372036854775807 < ia.size + 1 := by omega
  have n2 : ¬ 9223372036854775807 < ia.size + 1 + s16.size := by omega
  have n3 : ¬ 9223372036854775807 < ia.size + 1 + s16.size + 1 := by omega
  have n4 : ¬ 9223372036854775807 < ia.size + 1 + s16.size + 1 + ib.size := by omega
  clear ht hia hib hs16 hA hB hC hb0 hs16l hial hibl
  go_enter Tryz.func21, Tryz.ntmps21
  go_upto_region 1 with fail
  clear hW0
  go_wp2_with fail
  refine HS.out.mono ?_
  rintro e w1 ⟨rfl, hb1⟩
  have HB1 := Lib.hid (HB0.out.trans (hb1.mono HB0.out.size))
  have ka := HKA.out.keep hb1; have kb := HKB.out.keep hb1; have kc := HKC.out.keep hb1
  obtain ⟨c0, c1⟩ := ka.drew.two
  obtain ⟨d0, d1⟩ := kb.drew.two
  have HA1 := Lib.hid ka; have HC1 := Lib.hid kc; have HBB1 := Lib.hid kb
  clear ka kb kc hb1
  go_wp2
  go_region_held3 (fun w' => w'.cell? ⟨w.heap.size, 0, none⟩ = some (.int .i64 ta) ∧ w'.cell? ⟨w.heap.size, 1, none⟩ = some (.string sa) ∧ w'.cell? ⟨w.heap.size + 1, 0, none⟩ = some (.int .i64 tb) ∧ w'.cell? ⟨w.heap.size + 1, 1, none⟩ = some (.string sb))
    (first | (with_reducible exact ⟨c0, c1, d0, d1⟩) | (with_reducible exact ⟨e0, e1, f0, f1⟩) | (with_reducible exact ⟨g0, g1, h0, h1⟩) | (with_reducible exact ⟨i0, i1, j0, j1⟩) | (trace_state; fail))
    (first
      | (go_simp; go_at_call 20; (with_reducible refine (HI.out _ ta 3 sa ha).mono ?_)
         rintro e w2 ⟨rfl, hb2⟩
         rw [HIA.out]
         have HB2 := Lib.hid (HB1.out.drew.trans (hb2.mono HB1.out.drew.size))
         have ka2 := HA1.out.drew.keep hb2; have kb2 := HBB1.out.drew.keep hb2; have kc2 := HC1.out.drew.keep hb2
         obtain ⟨e0, e1⟩ := ka2.two
         obtain ⟨f0, f1⟩ := kb2.two
         have HA2 := Lib.hid ka2; have HBB2 := Lib.hid kb2; have HC2 := Lib.hid kc2
         clear hb2 ka2 kb2 kc2)
      | (go_simp; go_at_call 20; (with_reducible refine (HI.out _ tb 4 sb hb).mono ?_)
         rintro e w3 ⟨rfl, hb3⟩
         rw [HIB.out]
         have HB3 := Lib.hid (HB2.out.trans (hb3.mono HB2.out.size))
         have ka3 := HA2.out.keep hb3; have kb3 := HBB2.out.keep hb3; have kc3 := HC2.out.keep hb3
         obtain ⟨g0, g1⟩ := ka3.two
         obtain ⟨h0, h1⟩ := kb3.two
         have z0 := kc3.free 0; have z1 := kc3.free 1
         obtain ⟨kc4, kc5⟩ := kc3.two
         have ka5 := ka3.over2 (g := w.heap.size + 1 + 1) (by omega) (.int .i64 3) (.string (ia ++ (⟨#[32]⟩ : ByteArray) ++ s16 ++ (⟨#[32]⟩ : ByteArray) ++ ib))
         have kb5 := kb3.over2 (g := w.heap.size + 1 + 1) (by omega) (.int .i64 3) (.string (ia ++ (⟨#[32]⟩ : ByteArray) ++ s16 ++ (⟨#[32]⟩ : ByteArray) ++ ib))
         obtain ⟨i0, i1⟩ := ka5.two
         obtain ⟨j0, j1⟩ := kb5.two
         have HR := Lib.hid (kc3.put2 (.int .i64 3) (.string (ia ++ (⟨#[32]⟩ : ByteArray) ++ s16 ++ (⟨#[32]⟩ : ByteArray) ++ ib))).two
         clear hb3 ka3 kb3 kc3 ka5 kb5))
  all_goals
    go_wp2
    refine bodyPost_ret (v := .agg #[.int .i64 3, .string (ia ++ (⟨#[32]⟩ : ByteArray) ++ s16 ++ (⟨#[32]⟩ : ByteArray) ++ ib)]) (by simp [results, Tryz.results21, go_sem, HR.out.1, HR.out.2]) rfl ?_
    exact ⟨rfl, (HB3.out.setCell (p := ⟨w.heap.size + 1 + 1, 0, none⟩) (by show w.heap.size ≤ w.heap.size + 1 + 1; omega) _).setCell (p := ⟨w.heap.size + 1 + 1, 1, none⟩) (by show w.heap.size ≤ w.heap.size + 1 + 1; omega) _⟩

set_option maxRecDepth 100000 in
set_option maxHeartbeats 4000000 in
theorem two_17 {w : World} (ht : Tabs w) (ta tb : Int) (sa sb : ByteArray) (ha : sa.size ≤ 100000) (hb : sb.size ≤ 100000) :
    Calls Tryz.prog 21 #[.int .i64 17, .agg #[.int .i64 ta, .string sa], .agg #[.int .i64 tb, .string sb]] w fun e w' => e = .returned (.agg #[.int .i64 2, .string (twoTx 17 ta sa tb sb)]) ∧ Below w.heap.size w w' := by
  obtain ⟨W0, hW0⟩ : ∃ W, (((w.alloc (.cells #[.int .i64 ta, .string sa] 47)).alloc (.cells #[.int .i64 tb, .string sb] 47)).alloc (.cells #[.int .i64 0, .string ⟨#[]⟩] 47)) = W := ⟨_, rfl⟩
  have hA : Blk W0 w.heap.size #[.int .i64 ta, .string sa] 47 := by rw [← hW0]; exact ((Blk.new w _ _).alloc _).alloc _
  have hB : Blk W0 (w.heap.size + 1) #[.int .i64 tb, .string sb] 47 := by
    rw [← hW0]
    have := (Blk.new (w.alloc (.cells #[.int .i64 ta, .string sa] 47)) #[.int .i64 tb, .string sb] 47).alloc (.cells #[.int .i64 0, .string ⟨#[]⟩] 47)
    simpa using this
  have hC : Blk W0 (w.heap.size + 1 + 1) #[.int .i64 0, .string ⟨#[]⟩] 47 := by
    rw [← hW0]
    have := (Blk.new ((w.alloc (.cells #[.int .i64 ta, .string sa] 47)).alloc (.cells #[.int .i64 tb, .string sb] 47)) #[.int .i64 0, .string ⟨#[]⟩] 47)
    simpa using this
  have hb0 : Below w.heap.size w W0 := by rw [← hW0]; exact (((Below.refl _ w).alloc (Nat.le_refl _) _).alloc (by simp) _).alloc (by simp; omega) _
  have HB0 := Lib.hid hb0
  have HS := Lib.hid (sh_sign_any (ht.keep hb0) 17)
  have HI := Lib.hid (fun (W : World) (t m : Int) (s : ByteArray) (hs : s.size ≤ 100000) => in_any W t m s (by omega))
  have HP := Lib.hid (twoTx_17 ta sa tb sb)
  obtain ⟨s16, hs16⟩ : ∃ s, signB 17 = s := ⟨_, rfl⟩
  have hs16l : s16.size ≤ 8 := by rw [← hs16]; exact signB_size 17
  obtain ⟨ia, hia⟩ : ∃ s, inF ta 2 sa = s := ⟨_, rfl⟩
  have hial : ia.size ≤ 100002 := by rw [← hia]; have := inF_size ta 2 sa; omega
  obtain ⟨ib, hib⟩ : ∃ s, inF tb 3 sb = s := ⟨_, rfl⟩
  have hibl : ib.size ≤ 100002 := by rw [← hib]; have := inF_size tb 3 sb; omega
  have HIA := Lib.hid (hia); have HIB := Lib.hid hib; have HS16 := Lib.hid hs16
  rw [hia, hib, hs16] at HP
  rw [hs16] at HS
  rw [HP.out]
  have HKA := Lib.hid hA; have HKB := Lib.hid hB; have HKC := Lib.hid hC
  have n1 : ¬ 9223372036854775807 < ia.size + 1 := by omega
  have n2 : ¬ 9223372036854775807 < ia.size + 1 + s16.size := by omega
  have n3 : ¬ 9223372036854775807 < ia.size + 1 + s16.size + 1 := by omega
  have n4 : ¬ 9223372036854775807 < ia.size + 1 + s16.size + 1 + ib.size := by omega
  clear ht hia hib hs16 hA hB hC hb0 hs16l hial hibl
  go_enter Tryz.func21, Tryz.ntmps21
  go_upto_region 1 with fail
  clear hW0
  go_wp2_with fail
  refine HS.out.mono ?_
  rintro e w1 ⟨rfl, hb1⟩
  have HB1 := Lib.hid (HB0.out.trans (hb1.mono HB0.out.size))
  have ka := HKA.out.keep hb1; have kb := HKB.out.keep hb1; have kc := HKC.out.keep hb1
  obtain ⟨c0, c1⟩ := ka.drew.two
  obtain ⟨d0, d1⟩ := kb.drew.two
  have HA1 := Lib.hid ka; have HC1 := Lib.hid kc; have HBB1 := Lib.hid kb
  clear ka kb kc hb1
  go_wp2
  go_region_held3 (fun w' => w'.cell? ⟨w.heap.size, 0, none⟩ = some (.int .i64 ta) ∧ w'.cell? ⟨w.heap.size, 1, none⟩ = some (.string sa) ∧ w'.cell? ⟨w.heap.size + 1, 0, none⟩ = some (.int .i64 tb) ∧ w'.cell? ⟨w.heap.size + 1, 1, none⟩ = some (.string sb))
    (first | (with_reducible exact ⟨c0, c1, d0, d1⟩) | (with_reducible exact ⟨e0, e1, f0, f1⟩) | (with_reducible exact ⟨g0, g1, h0, h1⟩) | (with_reducible exact ⟨i0, i1, j0, j1⟩) | (trace_state; fail))
    (first
      | (go_simp; go_at_call 20; (with_reducible refine (HI.out _ ta 2 sa ha).mono ?_)
         rintro e w2 ⟨rfl, hb2⟩
         rw [HIA.out]
         have HB2 := Lib.hid (HB1.out.drew.trans (hb2.mono HB1.out.drew.size))
         have ka2 := HA1.out.drew.keep hb2; have kb2 := HBB1.out.drew.keep hb2; have kc2 := HC1.out.drew.keep hb2
         obtain ⟨e0, e1⟩ := ka2.two
         obtain ⟨f0, f1⟩ := kb2.two
         have HA2 := Lib.hid ka2; have HBB2 := Lib.hid kb2; have HC2 := Lib.hid kc2
         clear hb2 ka2 kb2 kc2)
      | (go_simp; go_at_call 20; (with_reducible refine (HI.out _ tb 3 sb hb).mono ?_)
         rintro e w3 ⟨rfl, hb3⟩
         rw [HIB.out]
         have HB3 := Lib.hid (HB2.out.trans (hb3.mono HB2.out.size))
         have ka3 := HA2.out.keep hb3; have kb3 := HBB2.out.keep hb3; have kc3 := HC2.out.keep hb3
         obtain ⟨g0, g1⟩ := ka3.two
         obtain ⟨h0, h1⟩ := kb3.two
         have z0 := kc3.free 0; have z1 := kc3.free 1
         obtain ⟨kc4, kc5⟩ := kc3.two
         have ka5 := ka3.over2 (g := w.heap.size + 1 + 1) (by omega) (.int .i64 2) (.string (ia ++ (⟨#[32]⟩ : ByteArray) ++ s16 ++ (⟨#[32]⟩ : ByteArray) ++ ib))
         have kb5 := kb3.over2 (g := w.heap.size + 1 + 1) (by omega) (.int .i64 2) (.string (ia ++ (⟨#[32]⟩ : ByteArray) ++ s16 ++ (⟨#[32]⟩ : ByteArray) ++ ib))
         obtain ⟨i0, i1⟩ := ka5.two
         obtain ⟨j0, j1⟩ := kb5.two
         have HR := Lib.hid (kc3.put2 (.int .i64 2) (.string (ia ++ (⟨#[32]⟩ : ByteArray) ++ s16 ++ (⟨#[32]⟩ : ByteArray) ++ ib))).two
         clear hb3 ka3 kb3 kc3 ka5 kb5))
  all_goals
    go_wp2
    refine bodyPost_ret (v := .agg #[.int .i64 2, .string (ia ++ (⟨#[32]⟩ : ByteArray) ++ s16 ++ (⟨#[32]⟩ : ByteArray) ++ ib)]) (by simp [results, Tryz.results21, go_sem, HR.out.1, HR.out.2]) rfl ?_
    exact ⟨rfl, (HB3.out.setCell (p := ⟨w.heap.size + 1 + 1, 0, none⟩) (by show w.heap.size ≤ w.heap.size + 1 + 1; omega) _).setCell (p := ⟨w.heap.size + 1 + 1, 1, none⟩) (by show w.heap.size ≤ w.heap.size + 1 + 1; omega) _⟩

set_option maxRecDepth 100000 in
set_option maxHeartbeats 4000000 in
theorem two_18 {w : World} (ht : Tabs w) (ta tb : Int) (sa sb : ByteArray) (ha : sa.size ≤ 100000) (hb : sb.size ≤ 100000) :
    Calls Tryz.prog 21 #[.int .i64 18, .agg #[.int .i64 ta, .string sa], .agg #[.int .i64 tb, .string sb]] w fun e w' => e = .returned (.agg #[.int .i64 1, .string (twoTx 18 ta sa tb sb)]) ∧ Below w.heap.size w w' := by
  obtain ⟨W0, hW0⟩ : ∃ W, (((w.alloc (.cells #[.int .i64 ta, .string sa] 47)).alloc (.cells #[.int .i64 tb, .string sb] 47)).alloc (.cells #[.int .i64 0, .string ⟨#[]⟩] 47)) = W := ⟨_, rfl⟩
  have hA : Blk W0 w.heap.size #[.int .i64 ta, .string sa] 47 := by rw [← hW0]; exact ((Blk.new w _ _).alloc _).alloc _
  have hB : Blk W0 (w.heap.size + 1) #[.int .i64 tb, .string sb] 47 := by
    rw [← hW0]
    have := (Blk.new (w.alloc (.cells #[.int .i64 ta, .string sa] 47)) #[.int .i64 tb, .string sb] 47).alloc (.cells #[.int .i64 0, .string ⟨#[]⟩] 47)
    simpa using this
  have hC : Blk W0 (w.heap.size + 1 + 1) #[.int .i64 0, .string ⟨#[]⟩] 47 := by
    rw [← hW0]
    have := (Blk.new ((w.alloc (.cells #[.int .i64 ta, .string sa] 47)).alloc (.cells #[.int .i64 tb, .string sb] 47)) #[.int .i64 0, .string ⟨#[]⟩] 47)
    simpa using this
  have hb0 : Below w.heap.size w W0 := by rw [← hW0]; exact (((Below.refl _ w).alloc (Nat.le_refl _) _).alloc (by simp) _).alloc (by simp; omega) _
  have HB0 := Lib.hid hb0
  have HS := Lib.hid (sh_sign_any (ht.keep hb0) 18)
  have HI := Lib.hid (fun (W : World) (t m : Int) (s : ByteArray) (hs : s.size ≤ 100000) => in_any W t m s (by omega))
  have HP := Lib.hid (twoTx_18 ta sa tb sb)
  obtain ⟨s16, hs16⟩ : ∃ s, signB 18 = s := ⟨_, rfl⟩
  have hs16l : s16.size ≤ 8 := by rw [← hs16]; exact signB_size 18
  obtain ⟨ia, hia⟩ : ∃ s, inF ta 2 sa = s := ⟨_, rfl⟩
  have hial : ia.size ≤ 100002 := by rw [← hia]; have := inF_size ta 2 sa; omega
  obtain ⟨ib, hib⟩ : ∃ s, inF tb 1 sb = s := ⟨_, rfl⟩
  have hibl : ib.size ≤ 100002 := by rw [← hib]; have := inF_size tb 1 sb; omega
  have HIA := Lib.hid (hia); have HIB := Lib.hid hib; have HS16 := Lib.hid hs16
  rw [hia, hib, hs16] at HP
  rw [hs16] at HS
  rw [HP.out]
  have HKA := Lib.hid hA; have HKB := Lib.hid hB; have HKC := Lib.hid hC
  have n1 : ¬ 9223372036854775807 < ia.size + 1 := by omega
  have n2 : ¬ 9223372036854775807 < ia.size + 1 + s16.size := by omega
  have n3 : ¬ 9223372036854775807 < ia.size + 1 + s16.size + 1 := by omega
  have n4 : ¬ 9223372036854775807 < ia.size + 1 + s16.size + 1 + ib.size := by omega
  clear ht hia hib hs16 hA hB hC hb0 hs16l hial hibl
  go_enter Tryz.func21, Tryz.ntmps21
  go_upto_region 1 with fail
  clear hW0
  go_wp2_with fail
  refine HS.out.mono ?_
  rintro e w1 ⟨rfl, hb1⟩
  have HB1 := Lib.hid (HB0.out.trans (hb1.mono HB0.out.size))
  have ka := HKA.out.keep hb1; have kb := HKB.out.keep hb1; have kc := HKC.out.keep hb1
  obtain ⟨c0, c1⟩ := ka.drew.two
  obtain ⟨d0, d1⟩ := kb.drew.two
  have HA1 := Lib.hid ka; have HC1 := Lib.hid kc; have HBB1 := Lib.hid kb
  clear ka kb kc hb1
  go_wp2
  go_region_held3 (fun w' => w'.cell? ⟨w.heap.size, 0, none⟩ = some (.int .i64 ta) ∧ w'.cell? ⟨w.heap.size, 1, none⟩ = some (.string sa) ∧ w'.cell? ⟨w.heap.size + 1, 0, none⟩ = some (.int .i64 tb) ∧ w'.cell? ⟨w.heap.size + 1, 1, none⟩ = some (.string sb))
    (first | (with_reducible exact ⟨c0, c1, d0, d1⟩) | (with_reducible exact ⟨e0, e1, f0, f1⟩) | (with_reducible exact ⟨g0, g1, h0, h1⟩) | (with_reducible exact ⟨i0, i1, j0, j1⟩) | (trace_state; fail))
    (first
      | (go_simp; go_at_call 20; (with_reducible refine (HI.out _ ta 2 sa ha).mono ?_)
         rintro e w2 ⟨rfl, hb2⟩
         rw [HIA.out]
         have HB2 := Lib.hid (HB1.out.drew.trans (hb2.mono HB1.out.drew.size))
         have ka2 := HA1.out.drew.keep hb2; have kb2 := HBB1.out.drew.keep hb2; have kc2 := HC1.out.drew.keep hb2
         obtain ⟨e0, e1⟩ := ka2.two
         obtain ⟨f0, f1⟩ := kb2.two
         have HA2 := Lib.hid ka2; have HBB2 := Lib.hid kb2; have HC2 := Lib.hid kc2
         clear hb2 ka2 kb2 kc2)
      | (go_simp; go_at_call 20; (with_reducible refine (HI.out _ tb 1 sb hb).mono ?_)
         rintro e w3 ⟨rfl, hb3⟩
         rw [HIB.out]
         have HB3 := Lib.hid (HB2.out.trans (hb3.mono HB2.out.size))
         have ka3 := HA2.out.keep hb3; have kb3 := HBB2.out.keep hb3; have kc3 := HC2.out.keep hb3
         obtain ⟨g0, g1⟩ := ka3.two
         obtain ⟨h0, h1⟩ := kb3.two
         have z0 := kc3.free 0; have z1 := kc3.free 1
         obtain ⟨kc4, kc5⟩ := kc3.two
         have ka5 := ka3.over2 (g := w.heap.size + 1 + 1) (by omega) (.int .i64 1) (.string (ia ++ (⟨#[32]⟩ : ByteArray) ++ s16 ++ (⟨#[32]⟩ : ByteArray) ++ ib))
         have kb5 := kb3.over2 (g := w.heap.size + 1 + 1) (by omega) (.int .i64 1) (.string (ia ++ (⟨#[32]⟩ : ByteArray) ++ s16 ++ (⟨#[32]⟩ : ByteArray) ++ ib))
         obtain ⟨i0, i1⟩ := ka5.two
         obtain ⟨j0, j1⟩ := kb5.two
         have HR := Lib.hid (kc3.put2 (.int .i64 1) (.string (ia ++ (⟨#[32]⟩ : ByteArray) ++ s16 ++ (⟨#[32]⟩ : ByteArray) ++ ib))).two
         clear hb3 ka3 kb3 kc3 ka5 kb5))
  all_goals
    go_wp2
    refine bodyPost_ret (v := .agg #[.int .i64 1, .string (ia ++ (⟨#[32]⟩ : ByteArray) ++ s16 ++ (⟨#[32]⟩ : ByteArray) ++ ib)]) (by simp [results, Tryz.results21, go_sem, HR.out.1, HR.out.2]) rfl ?_
    exact ⟨rfl, (HB3.out.setCell (p := ⟨w.heap.size + 1 + 1, 0, none⟩) (by show w.heap.size ≤ w.heap.size + 1 + 1; omega) _).setCell (p := ⟨w.heap.size + 1 + 1, 1, none⟩) (by show w.heap.size ≤ w.heap.size + 1 + 1; omega) _⟩

set_option maxRecDepth 100000 in
set_option maxHeartbeats 4000000 in
theorem two_25 {w : World} (ht : Tabs w) (ta tb : Int) (sa sb : ByteArray) (ha : sa.size ≤ 100000) (hb : sb.size ≤ 100000) :
    Calls Tryz.prog 21 #[.int .i64 25, .agg #[.int .i64 ta, .string sa], .agg #[.int .i64 tb, .string sb]] w fun e w' => e = .returned (.agg #[.int .i64 4, .string (twoTx 25 ta sa tb sb)]) ∧ Below w.heap.size w w' := by
  obtain ⟨W0, hW0⟩ : ∃ W, (((w.alloc (.cells #[.int .i64 ta, .string sa] 47)).alloc (.cells #[.int .i64 tb, .string sb] 47)).alloc (.cells #[.int .i64 0, .string ⟨#[]⟩] 47)) = W := ⟨_, rfl⟩
  have hA : Blk W0 w.heap.size #[.int .i64 ta, .string sa] 47 := by rw [← hW0]; exact ((Blk.new w _ _).alloc _).alloc _
  have hB : Blk W0 (w.heap.size + 1) #[.int .i64 tb, .string sb] 47 := by
    rw [← hW0]
    have := (Blk.new (w.alloc (.cells #[.int .i64 ta, .string sa] 47)) #[.int .i64 tb, .string sb] 47).alloc (.cells #[.int .i64 0, .string ⟨#[]⟩] 47)
    simpa using this
  have hC : Blk W0 (w.heap.size + 1 + 1) #[.int .i64 0, .string ⟨#[]⟩] 47 := by
    rw [← hW0]
    have := (Blk.new ((w.alloc (.cells #[.int .i64 ta, .string sa] 47)).alloc (.cells #[.int .i64 tb, .string sb] 47)) #[.int .i64 0, .string ⟨#[]⟩] 47)
    simpa using this
  have hb0 : Below w.heap.size w W0 := by rw [← hW0]; exact (((Below.refl _ w).alloc (Nat.le_refl _) _).alloc (by simp) _).alloc (by simp; omega) _
  have HB0 := Lib.hid hb0
  have HS := Lib.hid (sh_sign_any (ht.keep hb0) 25)
  have HP := Lib.hid (twoTx_25 ta sa tb sb)
  obtain ⟨s16, hs16⟩ : ∃ s, signB 25 = s := ⟨_, rfl⟩
  have hs16l : s16.size ≤ 8 := by rw [← hs16]; exact signB_size 25
  rw [hs16] at HP
  rw [hs16] at HS
  rw [HP.out]
  have HKA := Lib.hid hA; have HKB := Lib.hid hB; have HKC := Lib.hid hC
  have n1 : ¬ 9223372036854775807 < s16.size + 2 := by omega
  have n2 : ¬ 9223372036854775807 < s16.size + 2 + sa.size := by omega
  have n3 : ¬ 9223372036854775807 < s16.size + 2 + sa.size + 3 := by omega
  have n4 : ¬ 9223372036854775807 < s16.size + 2 + sa.size + 3 + sb.size := by omega
  have n5 : ¬ 9223372036854775807 < s16.size + 2 + sa.size + 3 + sb.size + 1 := by omega
  clear ht hs16 hA hB hC hb0 hs16l
  go_enter Tryz.func21, Tryz.ntmps21
  go_upto_region 1 with fail
  clear hW0
  go_wp2_with fail
  refine HS.out.mono ?_
  rintro e w1 ⟨rfl, hb1⟩
  have HB1 := Lib.hid (HB0.out.trans (hb1.mono HB0.out.size))
  have ka := HKA.out.keep hb1; have kb := HKB.out.keep hb1; have kc := HKC.out.keep hb1
  obtain ⟨c0, c1⟩ := ka.two
  obtain ⟨d0, d1⟩ := kb.two
  obtain ⟨x0, x1⟩ := kc.two
  have z0 := kc.free 0; have z1 := kc.free 1
  have HR := Lib.hid (kc.put2 (.int .i64 4) (.string (s16 ++ (⟨#[32, 91]⟩ : ByteArray) ++ sa ++ (⟨#[32, 85, 32]⟩ : ByteArray) ++ sb ++ (⟨#[93]⟩ : ByteArray)))).two
  clear ka kb kc hb1
  go_wp2
  refine bodyPost_ret (v := .agg #[.int .i64 4, .string (s16 ++ (⟨#[32, 91]⟩ : ByteArray) ++ sa ++ (⟨#[32, 85, 32]⟩ : ByteArray) ++ sb ++ (⟨#[93]⟩ : ByteArray))]) (by simp [results, Tryz.results21, go_sem, HR.out.1, HR.out.2]) rfl ?_
  exact ⟨rfl, (HB1.out.setCell (p := ⟨w.heap.size + 1 + 1, 0, none⟩) (by show w.heap.size ≤ w.heap.size + 1 + 1; omega) _).setCell (p := ⟨w.heap.size + 1 + 1, 1, none⟩) (by show w.heap.size ≤ w.heap.size + 1 + 1; omega) _⟩

set_option maxRecDepth 100000 in
set_option maxHeartbeats 4000000 in
theorem two_26 {w : World} (ht : Tabs w) (ta tb : Int) (sa sb : ByteArray) (ha : sa.size ≤ 100000) (hb : sb.size ≤ 100000) :
    Calls Tryz.prog 21 #[.int .i64 26, .agg #[.int .i64 ta, .string sa], .agg #[.int .i64 tb, .string sb]] w fun e w' => e = .returned (.agg #[.int .i64 4, .string (twoTx 26 ta sa tb sb)]) ∧ Below w.heap.size w w' := by
  obtain ⟨W0, hW0⟩ : ∃ W, (((w.alloc (.cells #[.int .i64 ta, .string sa] 47)).alloc (.cells #[.int .i64 tb, .string sb] 47)).alloc (.cells #[.int .i64 0, .string ⟨#[]⟩] 47)) = W := ⟨_, rfl⟩
  have hA : Blk W0 w.heap.size #[.int .i64 ta, .string sa] 47 := by rw [← hW0]; exact ((Blk.new w _ _).alloc _).alloc _
  have hB : Blk W0 (w.heap.size + 1) #[.int .i64 tb, .string sb] 47 := by
    rw [← hW0]
    have := (Blk.new (w.alloc (.cells #[.int .i64 ta, .string sa] 47)) #[.int .i64 tb, .string sb] 47).alloc (.cells #[.int .i64 0, .string ⟨#[]⟩] 47)
    simpa using this
  have hC : Blk W0 (w.heap.size + 1 + 1) #[.int .i64 0, .string ⟨#[]⟩] 47 := by
    rw [← hW0]
    have := (Blk.new ((w.alloc (.cells #[.int .i64 ta, .string sa] 47)).alloc (.cells #[.int .i64 tb, .string sb] 47)) #[.int .i64 0, .string ⟨#[]⟩] 47)
    simpa using this
  have hb0 : Below w.heap.size w W0 := by rw [← hW0]; exact (((Below.refl _ w).alloc (Nat.le_refl _) _).alloc (by simp) _).alloc (by simp; omega) _
  have HB0 := Lib.hid hb0
  have HS := Lib.hid (sh_sign_any (ht.keep hb0) 26)
  have HP := Lib.hid (twoTx_26 ta sa tb sb)
  obtain ⟨s16, hs16⟩ : ∃ s, signB 26 = s := ⟨_, rfl⟩
  have hs16l : s16.size ≤ 8 := by rw [← hs16]; exact signB_size 26
  rw [hs16] at HP
  rw [hs16] at HS
  rw [HP.out]
  have HKA := Lib.hid hA; have HKB := Lib.hid hB; have HKC := Lib.hid hC
  have n1 : ¬ 9223372036854775807 < s16.size + 2 := by omega
  have n2 : ¬ 9223372036854775807 < s16.size + 2 + sa.size := by omega
  have n3 : ¬ 9223372036854775807 < s16.size + 2 + sa.size + 3 := by omega
  have n4 : ¬ 9223372036854775807 < s16.size + 2 + sa.size + 3 + sb.size := by omega
  have n5 : ¬ 9223372036854775807 < s16.size + 2 + sa.size + 3 + sb.size + 1 := by omega
  clear ht hs16 hA hB hC hb0 hs16l
  go_enter Tryz.func21, Tryz.ntmps21
  go_upto_region 1 with fail
  clear hW0
  go_wp2_with fail
  refine HS.out.mono ?_
  rintro e w1 ⟨rfl, hb1⟩
  have HB1 := Lib.hid (HB0.out.trans (hb1.mono HB0.out.size))
  have ka := HKA.out.keep hb1; have kb := HKB.out.keep hb1; have kc := HKC.out.keep hb1
  obtain ⟨c0, c1⟩ := ka.two
  obtain ⟨d0, d1⟩ := kb.two
  obtain ⟨x0, x1⟩ := kc.two
  have z0 := kc.free 0; have z1 := kc.free 1
  have HR := Lib.hid (kc.put2 (.int .i64 4) (.string (s16 ++ (⟨#[32, 91]⟩ : ByteArray) ++ sa ++ (⟨#[32, 85, 32]⟩ : ByteArray) ++ sb ++ (⟨#[93]⟩ : ByteArray)))).two
  clear ka kb kc hb1
  go_wp2
  refine bodyPost_ret (v := .agg #[.int .i64 4, .string (s16 ++ (⟨#[32, 91]⟩ : ByteArray) ++ sa ++ (⟨#[32, 85, 32]⟩ : ByteArray) ++ sb ++ (⟨#[93]⟩ : ByteArray))]) (by simp [results, Tryz.results21, go_sem, HR.out.1, HR.out.2]) rfl ?_
  exact ⟨rfl, (HB1.out.setCell (p := ⟨w.heap.size + 1 + 1, 0, none⟩) (by show w.heap.size ≤ w.heap.size + 1 + 1; omega) _).setCell (p := ⟨w.heap.size + 1 + 1, 1, none⟩) (by show w.heap.size ≤ w.heap.size + 1 + 1; omega) _⟩

theorem two_any {w : World} (ht : Tabs w) (op : Int) (hop : arN op = 2) (ta tb : Int) (sa sb : ByteArray) (ha : sa.size ≤ 100000) (hb : sb.size ≤ 100000) :
    Calls Tryz.prog 21 #[.int .i64 op, .agg #[.int .i64 ta, .string sa], .agg #[.int .i64 tb, .string sb]] w fun e w' => e = .returned (.agg #[.int .i64 (tightN op), .string (twoTx op ta sa tb sb)]) ∧ Below w.heap.size w w' := by
  have h : op = 16 ∨ op = 17 ∨ op = 18 ∨ op = 25 ∨ op = 26 := by
    unfold arN at hop
    split at hop
    · omega
    split at hop
    · omega
    split at hop
    · omega
    · omega
  rcases h with rfl | rfl | rfl | rfl | rfl
  · exact two_16 ht ta tb sa sb ha hb
  · exact two_17 ht ta tb sa sb ha hb
  · exact two_18 ht ta tb sa sb ha hb
  · exact two_25 ht ta tb sa sb ha hb
  · exact two_26 ht ta tb sa sb ha hb

end Go.Proofs.YthhjepgcbfmfeaaGreatDoor
