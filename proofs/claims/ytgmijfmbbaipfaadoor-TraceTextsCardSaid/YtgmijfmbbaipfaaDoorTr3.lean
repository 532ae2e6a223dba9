/- warderref37's line. -/
import Derived.Test.YtgmijfmbbaipfaaDoorTr2
namespace Go.Proofs.YtgmijfmbbaipfaaDoor
open Go.RowKit

set_option maxRecDepth 100000 in
set_option maxHeartbeats 1600000 in
theorem rtline_any {w : World} {m0 m1 m2 m3 m4 m5 m6 m7 m8 m9 v2 : Value} {M : Mdl} (v : Mv) (ht : Tabs w) (hm : MdR w m0 m1 m2 m3 m4 m5 m6 m7 m8 m9 M) (hv : RowE intE 1 w v2 v.vals) (hs : SmallM M) (hsv : SmallV v) :
    Calls Tryd.prog 11 #[.agg #[m0, m1, m2, m3, m4, m5, m6, m7, m8, m9], .agg #[.int .i64 v.event, .int .i64 v.user, v2]] w fun e w' => ∃ s, e = .returned (.tuple #[.string s, .bool (lineOK M v)]) ∧ Hid (lineOK M v = true → s = lineT M v) ∧ Below w.heap.size w w' := by
  obtain ⟨a0, k0, e0⟩ := hm.attrs.len
  obtain ⟨a2, k2, e2⟩ := hm.users.len
  obtain ⟨a5, k5, e5⟩ := hm.events.len
  obtain ⟨av, kv, ev⟩ := hv.len
  have hx0 := hm.attrs.max; have hx2 := hm.users.max; have hx5 := hm.events.max; have hxv := hv.max
  obtain ⟨n0, hn0⟩ : ∃ n, M.attrs.length = n := ⟨_, rfl⟩
  obtain ⟨n2, hn2⟩ : ∃ n, M.users.length = n := ⟨_, rfl⟩
  obtain ⟨n5, hn5⟩ : ∃ n, M.events.length = n := ⟨_, rfl⟩
  obtain ⟨nv, hnv⟩ : ∃ n, v.vals.length = n := ⟨_, rfl⟩
  rw [hn0] at e0 hx0; rw [hn2] at e2 hx2; rw [hn5] at e5 hx5; rw [hnv] at ev hxv
  subst e0; subst e2; subst e5; subst ev
  obtain ⟨ve, hve⟩ : ∃ x, v.event = x := ⟨_, rfl⟩
  obtain ⟨vu, hvu⟩ : ∃ x, v.user = x := ⟨_, rfl⟩
  obtain ⟨W1, hW1⟩ : ∃ W1, w.alloc (.cells #[.slice a0 n0 k0, m1, .slice a2 n2 k2, m3, m4, .slice a5 n5 k5, m6, m7, m8, m9] 32) = W1 := ⟨_, rfl⟩
  have hs1 : W1.heap.size = w.heap.size + 1 := by rw [← hW1]; simp
  obtain ⟨W2, hW2⟩ : ∃ W2, W1.alloc (.cells #[.int .i64 ve, .int .i64 vu, .slice av nv kv] 46) = W2 := ⟨_, rfl⟩
  have hb2 : Below w.heap.size w W2 := by rw [← hW2, ← hW1]; exact ((Below.refl _ w).alloc (Nat.le_refl _) _).alloc (by simp) _
  have xm : Blk W2 w.heap.size #[.slice a0 n0 k0, m1, .slice a2 n2 k2, m3, m4, .slice a5 n5 k5, m6, m7, m8, m9] 32 := by rw [← hW2, ← hW1]; exact (Blk.new _ _ _).alloc _
  have xv : Blk W2 (w.heap.size + 1) #[.int .i64 ve, .int .i64 vu, .slice av nv kv] 46 := by rw [← hW2, ← hs1]; exact Blk.new _ _ _
  have d0 := xv.cell (i := 0) rfl; have d1 := xv.cell (i := 1) rfl; have d2 := xv.cell (i := 2) rfl
  have HT := Lib.hid ht; have HM := Lib.hid hm; have HV := Lib.hid hv; have HS := Lib.hid hs; have HSV := Lib.hid hsv
  have HN0 := Lib.hid hn0; have HN2 := Lib.hid hn2; have HN5 := Lib.hid hn5; have HNV := Lib.hid hnv
  have HVE := Lib.hid hve; have HVU := Lib.hid hvu; have HB2 := Lib.hid hb2; have HXM := Lib.hid xm; have HXV := Lib.hid xv
  have hid0 := ridle_any v av kv W2
  rw [hve, hvu, hnv] at hid0
  obtain ⟨q, hq⟩ : ∃ q, idleV v = q := ⟨_, rfl⟩
  rw [hq] at hid0
  have HID := Lib.hid hid0
  have HQ := Lib.hid hq
  rw [hve, hvu]
  clear ht hm hv hs hsv hn0 hn2 hn5 hnv hve hvu hb2 xm xv hid0 hq
  go_enter Tryd.func11, Tryd.ntmps11
  go_wp2_with fail
  refine HID.out.mono ?_
  rintro e w3 ⟨rfl, hb3⟩
  have HB3 := Lib.hid (HB2.out.trans (hb3.mono HB2.out.size))
  have HXM3 := Lib.hid (HXM.out.keep hb3)
  have HXV3 := Lib.hid (HXV.out.keep hb3)
  clear hb3 d0 d1 d2 HID HB2 HXM HXV
  cases q
  rotate_left
  · have HF : Hid (lineOK M v = true ∧ lineT M v = idleW) := by
      unfold Hid lineOK lineT; rw [HQ.out]; exact ⟨rfl, if_pos rfl⟩
    go_wp2_with fail
    go_ret2
    exact ⟨idleW, by rw [HF.out.1]; rfl, Lib.hid (fun _ => HF.out.2.symm), HB3.out⟩
  have HOK : Hid (lineOK M v = (inZ ve n5 && inZ vu n2 && decide (nv = (evAt M ve).sets.length) && nameOK (evAt M ve).name && nameOK (userAt M vu) && setsOK M.attrs (evAt M ve).sets (evAt M ve).sets.length)) := by
    unfold Hid lineOK formOK; rw [HQ.out, HVE.out, HVU.out, HN5.out, HN2.out, HNV.out]; rfl
  have HLT : Hid (lineT M v = accT M.attrs (evAt M ve).sets v.vals ((evAt M ve).name ++ byW ++ userAt M vu) (evAt M ve).sets.length ++ endW) := by
    unfold Hid lineT; rw [HQ.out, HVE.out, HVU.out]; rfl
  clear HQ
  have c0 := HXM3.out.cell (i := 0) rfl; have c2 := HXM3.out.cell (i := 2) rfl; have c5 := HXM3.out.cell (i := 5) rfl
  have d0 := HXV3.out.cell (i := 0) rfl; have d1 := HXV3.out.cell (i := 1) rfl; have d2 := HXV3.out.cell (i := 2) rfl
  by_cases h1 : inZ ve n5 = true
  rotate_left
  · rw [Bool.not_eq_true] at h1
    have HF : Hid (lineOK M v = false) := by unfold Hid; rw [HOK.out, h1]; rfl
    have HI1 : Hid (∀ q, Calls Tryd.prog 18 #[.int .i64 ve, .int .i64 n5] (w3.drewN q) fun e w' => e = .returned (.bool false) ∧ w' = w3.drewN q) := fun q => (rtin_any ve n5 _).mono fun e w' h => ⟨by rw [h.1, h1], h.2.symm⟩
    clear h1
    go_upto_region 3 with fail
    go_quiet ((go_at_call 18; exact Calls.quiet_of_same (HI1.out _)))
    have HB4 := Lib.hid (below_drewN HB3.out nq)
    go_wp2_with fail
    go_ret2
    exact ⟨_, by rw [HF.out]; rfl, Lib.hid (fun h => by rw [HF.out] at h; cases h), HB4.out⟩
  obtain ⟨E, rfl, hE⟩ := inZ_nat h1
  by_cases h2 : inZ vu n2 = true
  rotate_left
  · rw [Bool.not_eq_true] at h2
    have HF : Hid (lineOK M v = false) := by unfold Hid; rw [HOK.out, h2, Bool.and_false]; rfl
    have HI1 : Hid (∀ q, Calls Tryd.prog 18 #[.int .i64 E, .int .i64 n5] (w3.drewN q) fun e w' => e = .returned (.bool true) ∧ w' = w3.drewN q) := fun q => (rtin_any E n5 _).mono fun e w' h => ⟨by rw [h.1, h1], h.2.symm⟩
    have HI2 : Hid (∀ q, Calls Tryd.prog 18 #[.int .i64 vu, .int .i64 n2] (w3.drewN q) fun e w' => e = .returned (.bool false) ∧ w' = w3.drewN q) := fun q => (rtin_any vu n2 _).mono fun e w' h => ⟨by rw [h.1, h2], h.2.symm⟩
    clear h1 h2
    go_upto_region 3 with fail
    go_quiet ((go_at_call 18; first | (with_reducible exact Calls.quiet_of_same (HI1.out _)) | (with_reducible exact Calls.quiet_of_same (HI2.out _))))
    have HB4 := Lib.hid (below_drewN HB3.out nq)
    go_wp2_with fail
    go_ret2
    exact ⟨_, by rw [HF.out]; rfl, Lib.hid (fun h => by rw [HF.out] at h; cases h), HB4.out⟩
  obtain ⟨U, rfl, hU⟩ := inZ_nat h2
  obtain ⟨e, he⟩ : ∃ e, M.events[E]? = some e := ⟨_, List.getElem?_eq_getElem (by rw [HN5.out]; exact hE)⟩
  obtain ⟨u, hu⟩ : ∃ u, M.users[U]? = some u := ⟨_, List.getElem?_eq_getElem (by rw [HN2.out]; exact hU)⟩
  have hev : evAt M (E : Int) = e := list_getD _ he
  have hus : userAt M (U : Int) = u := list_getD _ hu
  rw [hev, hus] at HOK HLT
  have hes := evAt_size HS.out (E : Int); rw [hev] at hes
  have hus2 := userAt_size HS.out (U : Int); rw [hus] at hus2
  have hm3 := HM.out.below HB3.out
  obtain ⟨be, oe, ke, sv, eq, hev3⟩ := hm3.event_at he
  rw [HN5.out] at eq
  cases eq
  obtain ⟨bu, ou, ku, eq, hst3⟩ := hm3.users.st hu
  rw [HN2.out] at eq
  cases eq
  obtain ⟨asl, ks, esv⟩ := hev3.sets.len
  have hxs := hev3.sets.max
  obtain ⟨ns, hns⟩ : ∃ n, e.sets.length = n := ⟨_, rfl⟩
  rw [hns] at esv hxs HOK HLT
  subst esv
  have g0 := hev3.c0; have g1 := hev3.c1; have g2 := hev3.c2; have g3 := hev3.c3; have g4 := hev3.c4; have u0 := hst3.c
  have HEV3 := Lib.hid hev3; have HST3 := Lib.hid hst3; have HNS := Lib.hid hns; have HE := Lib.hid he; have HU := Lib.hid hu
  have hEi : (E : Int) < (n5 : Int) := by omega
  have hE0 : (0 : Int) ≤ (E : Int) := by omega
  have hUi : (U : Int) < (n2 : Int) := by omega
  have hU0 : (0 : Int) ≤ (U : Int) := by omega
  have HI1 : Hid (∀ q, Calls Tryd.prog 18 #[.int .i64 E, .int .i64 n5] (w3.drewN q) fun e w' => e = .returned (.bool true) ∧ w' = w3.drewN q) := fun q => (rtin_any E n5 _).mono fun e w' h => ⟨by rw [h.1, h1], h.2.symm⟩
  have HI2 : Hid (∀ q, Calls Tryd.prog 18 #[.int .i64 U, .int .i64 n2] (w3.drewN q) fun e w' => e = .returned (.bool true) ∧ w' = w3.drewN q) := fun q => (rtin_any U n2 _).mono fun e w' h => ⟨by rw [h.1, h2], h.2.symm⟩
  rw [h1, h2] at HOK
  clear h1 h2 hev hus hm3 hev3 hst3 hns he hu
  by_cases h3 : nv = ns
  rotate_left
  · have HF : Hid (lineOK M v = false) := by unfold Hid; rw [HOK.out, decide_eq_false h3]; rfl
    have h3b : ((nv : Int) != (ns : Int)) = true := by simp; omega
    clear h3
    go_upto_region 3 with fail
    go_quiet ((go_at_call 18; first | (with_reducible exact Calls.quiet_of_same (HI1.out _)) | (with_reducible exact Calls.quiet_of_same (HI2.out _))))
    have HB4 := Lib.hid (below_drewN HB3.out nq)
    go_wp2_with fail
    go_ret2
    exact ⟨_, by rw [HF.out]; rfl, Lib.hid (fun h => by rw [HF.out] at h; cases h), HB4.out⟩
  subst h3
  have HOK2 : Hid (lineOK M v = (nameOK e.name && nameOK u && setsOK M.attrs e.sets nv)) := by unfold Hid; rw [HOK.out, decide_eq_true rfl]; rfl
  clear HOK
  go_upto_region 3 with fail
  go_quiet ((go_at_call 18; first | (with_reducible exact Calls.quiet_of_same (HI1.out _)) | (with_reducible exact Calls.quiet_of_same (HI2.out _))))
  obtain ⟨w4, hw4⟩ : ∃ W, w3.drewN nq = W := ⟨_, rfl⟩
  have hb34 : Below w3.heap.size w3 w4 := by rw [← hw4]; exact below_drewN (Below.refl _ _) nq
  rw [hw4]
  have HB4 := Lib.hid (HB3.out.trans (hb34.mono HB3.out.size))
  have HXM4 := Lib.hid (HXM3.out.keep hb34)
  have HXV4 := Lib.hid (HXV3.out.keep hb34)
  have hev4 := HEV3.out.below hb34
  have hst4 := HST3.out.below hb34
  clear c0 c2 c5 d0 d1 d2 g0 g1 g2 g3 g4 u0 hw4 HI1 HI2 HXM3 HXV3 HEV3 HST3 HB3 hb34
  have c0 := HXM4.out.cell (i := 0) rfl; have c2 := HXM4.out.cell (i := 2) rfl; have c5 := HXM4.out.cell (i := 5) rfl
  have d0 := HXV4.out.cell (i := 0) rfl; have d1 := HXV4.out.cell (i := 1) rfl; have d2 := HXV4.out.cell (i := 2) rfl
  have g0 := hev4.c0; have g1 := hev4.c1; have g2 := hev4.c2; have g3 := hev4.c3; have g4 := hev4.c4; have u0 := hst4.c
  have hbe4 := hev4.lt; have hbu4 := hst4.lt; have hxl4 := HXV4.out.lt; have hxm4 := HXM4.out.lt
  have HEV4 := Lib.hid hev4; have HST4 := Lib.hid hst4
  clear hev4 hst4
  obtain ⟨W5, hW5⟩ : ∃ W, w4.alloc (.cells #[.string e.name, .int .i64 e.role, .int .i64 e.stage, .slice asl nv ks, .int .i64 e.times] 49) = W := ⟨_, rfl⟩
  have hb45 : Below w4.heap.size w4 W5 := by rw [← hW5]; exact (Below.refl _ _).alloc (Nat.le_refl _) _
  have HX5 := Lib.hid (show Blk W5 w4.heap.size #[.string e.name, .int .i64 e.role, .int .i64 e.stage, .slice asl nv ks, .int .i64 e.times] 49 by rw [← hW5]; exact Blk.new _ _ _)
  have HB5 := Lib.hid (HB4.out.trans (hb45.mono HB4.out.size))
  have HXM5 := Lib.hid (HXM4.out.keep hb45)
  have HXV5 := Lib.hid (HXV4.out.keep hb45)
  have HEV5 := Lib.hid (HEV4.out.below hb45)
  have HST5 := Lib.hid (HST4.out.below hb45)
  have e0 := HX5.out.cell (i := 0) rfl
  have f2 := HXM5.out.cell (i := 2) rfl; have p1 := HXV5.out.cell (i := 1) rfl; have u1 := HST5.out.c
  have hn1 : ¬ 9223372036854775807 < e.name.size + 4 := by omega
  have hn2 : ¬ 9223372036854775807 < e.name.size + 4 + u.size := by omega
  clear hb45
  go_upto_region 6 with fail
  go_quiet (fail)
  obtain ⟨w6, hw6⟩ : ∃ W, W5.drewN nq = W := ⟨_, rfl⟩
  have hb56 : Below W5.heap.size W5 w6 := by rw [← hw6]; exact below_drewN (Below.refl _ _) nq
  rw [hw6]
  have HB6 := Lib.hid (HB5.out.trans (hb56.mono HB5.out.size))
  have HXM6 := Lib.hid (HXM5.out.keep hb56)
  have HXV6 := Lib.hid (HXV5.out.keep hb56)
  have HEV6 := Lib.hid (HEV5.out.below hb56)
  have HST6 := Lib.hid (HST5.out.below hb56)
  have HX6 := Lib.hid (HX5.out.keep hb56)
  clear c0 c2 c5 d0 d1 d2 g0 g1 g2 g3 g4 u0 e0 f2 p1 u1 hw6 hb56 HXM4 HXV4 HEV4 HST4 HB4 HB5 HXM5 HXV5 HEV5 HST5 HX5 hW5
  obtain ⟨q1, hq1⟩ : ∃ q, nameOK e.name = q := ⟨_, rfl⟩
  obtain ⟨q2, hq2⟩ : ∃ q, nameOK u = q := ⟨_, rfl⟩
  rw [hq1, hq2] at HOK2
  have HNM : Hid (∀ W, Calls Tryd.prog 19 #[.string e.name] W fun e w' => e = .returned (.bool q1) ∧ Below W.heap.size W w') := fun W => by rw [← hq1]; exact rname_any e.name W
  have HNU : Hid (∀ W, Calls Tryd.prog 19 #[.string u] W fun e w' => e = .returned (.bool q2) ∧ Below W.heap.size W w') := fun W => by rw [← hq2]; exact rname_any u W
  have e0 := HX6.out.cell (i := 0) rfl
  clear hq1 hq2
  go_wp2_with fail
  refine (HNM.out _).mono ?_
  rintro e' w7 ⟨rfl, hb7⟩
  have HB7 := Lib.hid (HB6.out.trans (hb7.mono HB6.out.size))
  have HXM7 := Lib.hid (HXM6.out.keep hb7)
  have HXV7 := Lib.hid (HXV6.out.keep hb7)
  have HEV7 := Lib.hid (HEV6.out.below hb7)
  have HST7 := Lib.hid (HST6.out.below hb7)
  have HX7 := Lib.hid (HX6.out.keep hb7)
  clear e0 hb7 HB6 HXM6 HXV6 HEV6 HST6 HX6
  cases q1
  · have HF : Hid (lineOK M v = false) := by unfold Hid; rw [HOK2.out]; rfl
    go_wp2_with fail
    go_ret2
    exact ⟨_, by rw [HF.out]; rfl, Lib.hid (fun h => by rw [HF.out] at h; cases h), HB7.out⟩
  have f2 := HXM7.out.cell (i := 2) rfl; have p1 := HXV7.out.cell (i := 1) rfl; have u1 := HST7.out.c
  go_wp2_with fail
  refine (HNU.out _).mono ?_
  rintro e' wl ⟨rfl, hb8⟩
  have HBL := Lib.hid (HB7.out.trans (hb8.mono HB7.out.size))
  have HXML := Lib.hid (HXM7.out.keep hb8)
  have HXVL := Lib.hid (HXV7.out.keep hb8)
  have HSEL := Lib.hid (HEV7.out.sets.below intE_keep hb8)
  have HXEL := Lib.hid (HX7.out.keep hb8)
  clear f2 p1 u1 hb8 HB7 HXM7 HXV7 HEV7 HST7 HX7
  cases q2
  · have HF : Hid (lineOK M v = false) := by unfold Hid; rw [HOK2.out]; rfl
    go_wp2_with fail
    go_ret2
    exact ⟨_, by rw [HF.out]; rfl, Lib.hid (fun h => by rw [HF.out] at h; cases h), HBL.out⟩
  have HOK3 : Hid (lineOK M v = setsOK M.attrs e.sets nv) := by unfold Hid; rw [HOK2.out]; rfl
  have hnvb : nv ≤ 20 := by have := HSV.out.1; rw [HNV.out] at this; exact this
  obtain ⟨BT, hBT⟩ : ∃ b, e.name ++ byW ++ u = b := ⟨_, rfl⟩
  have hBTs : BT.size ≤ 124 := by rw [← hBT, ba_cat, ba_cat]; have : byW.size = 4 := rfl; omega
  rw [hBT] at HLT
  have hBT2 : e.name ++ { data := #[32, 98, 121, 32] } ++ u = BT := hBT
  rw [hBT2]
  clear hn1 hn2 hBT hBT2 HOK2 HNM HNU hes hus2
  go_wp2_with fail
  go_loopw [7, 8] (fun s7 s8 wr => ∃ k : Nat, k ≤ nv ∧ s8 = .int .i64 k ∧ s7 = .string (accT M.attrs e.sets v.vals BT k) ∧ Hid (setsOK M.attrs e.sets k = true) ∧ Hid (Below wl.heap.size wl wr)) (fun _ i _ => nv - (intOf i).toNat)
  case atStart => exact ⟨0, Nat.zero_le _, rfl, rfl, rfl, Below.refl _ _⟩
  case round =>
    obtain ⟨k, hk, rfl, rfl, HSO, HB⟩ := hrel
    have hTs := acc_size HS.out HSV.out e.sets BT k
    have HAC : Hid (accT M.attrs e.sets v.vals BT (k + 1) = accT M.attrs e.sets v.vals BT k ++ (if k = 0 then setsW else commaW) ++ pieceT M.attrs e.sets v.vals k) := rfl
    obtain ⟨TT, hTT⟩ : ∃ b, accT M.attrs e.sets v.vals BT k = b := ⟨_, rfl⟩
    have HTT := Lib.hid hTT
    rw [hTT] at hTs HAC ⊢
    clear hTT
    have d2 := (HXVL.out.keep HB.out).cell (i := 2) rfl
    have HBW := Lib.hid (HBL.out.trans (HB.out.mono HBL.out.size))
    by_cases hlt : k < nv
    · have hkn : (k : Int) < (nv : Int) := by omega
      have hk0 : (0 : Int) ≤ (k : Int) := by omega
      obtain ⟨a, ha⟩ : ∃ a, e.sets[k]? = some a := ⟨_, List.getElem?_eq_getElem (by rw [HNS.out]; exact hlt)⟩
      obtain ⟨xv, hxv2⟩ : ∃ a, v.vals[k]? = some a := ⟨_, List.getElem?_eq_getElem (by rw [HNV.out]; exact hlt)⟩
      obtain ⟨bs, os, cs, eq, hbs, _⟩ := HSEL.out.int ha
      rw [HNS.out] at eq
      cases eq
      obtain ⟨_, _, _, eq, _, s0⟩ := (HSEL.out.below intE_keep HB.out).int ha
      rw [HNS.out] at eq
      cases eq
      have hga : e.sets.getD k 0 = a := list_getD _ ha
      have m0' := (HXML.out.keep HB.out).cell (i := 0) rfl
      have e3 := (HXEL.out.keep HB.out).cell (i := 3) rfl
      by_cases h1 : inZ a n0 = true
      rotate_left
      · rw [Bool.not_eq_true] at h1
        have HF : Hid (lineOK M v = false) := by
          unfold Hid; rw [HOK3.out, setsOK_back hlt (by unfold attrOK; rw [hga, HN0.out, h1]; rfl)]
        have HI1 : Hid (∀ q, Calls Tryd.prog 18 #[.int .i64 a, .int .i64 n0] (wr.drewN q) fun e w' => e = .returned (.bool false) ∧ w' = wr.drewN q) := fun q => (rtin_any a n0 _).mono fun e w' h => ⟨by rw [h.1, h1], h.2.symm⟩
        clear ha hxv2 hga h1
        go_upto_region 12 with fail
        go_quiet ((go_at_call 18; exact Calls.quiet_of_same (HI1.out _)))
        have HB4 := Lib.hid (below_drewN HBW.out nq)
        go_wp2_with fail
        go_ret2
        exact ⟨_, by rw [HF.out]; rfl, Lib.hid (fun h => by rw [HF.out] at h; cases h), HB4.out⟩
      obtain ⟨A, rfl, hA⟩ := inZ_nat h1
      obtain ⟨sa, hsa⟩ : ∃ s, M.attrs[A]? = some s := ⟨_, List.getElem?_eq_getElem (by rw [HN0.out]; exact hA)⟩
      have hat : attrAt M.attrs (A : Int) = sa := list_getD _ hsa
      have hsz := attrAt_size HS.out (A : Int)
      rw [hat] at hsz
      obtain ⟨ba, oa, ca, eq, hstL⟩ := (HM.out.below HBL.out).attrs.st hsa
      rw [HN0.out] at eq
      cases eq
      have HI1 : Hid (∀ W, Calls Tryd.prog 18 #[.int .i64 A, .int .i64 n0] W fun e w' => e = .returned (.bool true) ∧ W = w') := fun W => (rtin_any A n0 _).mono fun e w' h => ⟨by rw [h.1, h1], h.2⟩
      have hAi : (A : Int) < (n0 : Int) := by omega
      have hA0 : (0 : Int) ≤ (A : Int) := by omega
      obtain ⟨q3, hq3⟩ : ∃ q, nameOK sa = q := ⟨_, rfl⟩
      have HN3 : Hid (∀ W, Calls Tryd.prog 19 #[.string sa] W fun e w' => e = .returned (.bool q3) ∧ Below W.heap.size W w') := fun W => by rw [← hq3]; exact rname_any sa W
      have hao : attrOK M.attrs (e.sets.getD k 0) = q3 := by unfold attrOK; rw [hga, HN0.out, h1, hat, hq3]; rfl
      have hpc : pieceT M.attrs e.sets v.vals k = sa ++ eqW ++ itoaB xv := by unfold pieceT; rw [hga, hat, list_getD _ hxv2]
      have HAO := Lib.hid hao
      have HPC := Lib.hid hpc
      have HSTL := Lib.hid hstL
      have HX6 := Lib.hid (val_in HSV.out k)
      rw [list_getD _ hxv2] at HX6
      have HXV2 := Lib.hid hxv2
      have HA := Lib.hid ha
      clear s0 m0' e3 d2
      obtain ⟨bv, ov, cv, eq, hbv, _⟩ := (HV.out.below intE_keep HBL.out).int HXV2.out
      rw [HNV.out] at eq
      cases eq
      have HSF : Hid (∀ W, Below wl.heap.size wl W → W.cell? ⟨w.heap.size, 0, none⟩ = some (.slice (some ⟨ba, oa, none⟩) n0 k0) ∧ W.cell? ⟨ba, oa + A, none⟩ = some (.string sa) ∧ W.cell? ⟨w.heap.size + 1, 2, none⟩ = some (.slice (some ⟨bv, ov, none⟩) nv kv) ∧ W.cell? ⟨bv, ov + k, none⟩ = some (.int .i64 xv) ∧ W.cell? ⟨w4.heap.size, 3, none⟩ = some (.slice (some ⟨bs, os, none⟩) nv ks) ∧ W.cell? ⟨bs, os + k, none⟩ = some (.int .i64 A)) := by
        intro W hW
        obtain ⟨_, _, _, eq, _, z0⟩ := ((HV.out.below intE_keep HBL.out).below intE_keep hW).int HXV2.out
        rw [HNV.out] at eq
        cases eq
        obtain ⟨_, _, _, eq, _, z1⟩ := (HSEL.out.below intE_keep hW).int HA.out
        rw [HNS.out] at eq
        cases eq
        exact ⟨(HXML.out.keep hW).cell (i := 0) rfl, (HSTL.out.below hW).c, (HXVL.out.keep hW).cell (i := 2) rfl, z0, (HXEL.out.keep hW).cell (i := 3) rfl, z1⟩
      clear ha hxv2 hga h1 hsa hat hq3 hao hpc hstL
      obtain ⟨r0, r1, r2, r3, r4, r5⟩ := HSF.out wr HB.out
      have hbz : Below wl.heap.size wl wr.drew := HB.out.drew
      go_upto_region 12 with fail
      go_cut [100] from 71 to 125 (fun s100 wx => s100 = .bool (!q3) ∧ Hid (Below wl.heap.size wl wx))
      case first =>
        go_region_held3 (fun w' => w'.cell? ⟨w.heap.size, 0, none⟩ = some (.slice (some ⟨ba, oa, none⟩) n0 k0) ∧ w'.cell? ⟨ba, oa + A, none⟩ = some (.string sa) ∧ w'.cell? ⟨w.heap.size + 1, 2, none⟩ = some (.slice (some ⟨bv, ov, none⟩) nv kv) ∧ w'.cell? ⟨bv, ov + k, none⟩ = some (.int .i64 xv) ∧ w'.cell? ⟨w4.heap.size, 3, none⟩ = some (.slice (some ⟨bs, os, none⟩) nv ks) ∧ w'.cell? ⟨bs, os + k, none⟩ = some (.int .i64 A))
            (first | exact HSF.out _ (by assumption) | go_keep)
            (first
              | (go_simp; go_at_call 18; (with_reducible refine (HI1.out _).mono ?_); rintro e' w11 ⟨rfl, rfl⟩)
              | (go_simp; go_at_call 19; (with_reducible refine (HN3.out _).mono ?_)
                 rintro e' w12 ⟨rfl, hbs⟩
                 have hbz := hbz.trans (hbs.mono hbz.size)
                 clear hbs))
        all_goals
          go_wp2_with fail
          go_meet
          exact ⟨rfl, Lib.hid hbz⟩
      case rest =>
        clear hbz r0 r1 r2 r3 r4 r5 HB HBW
        obtain ⟨rfl, HB⟩ := hcut
        have HBW := Lib.hid (HBL.out.trans (HB.out.mono HBL.out.size))
        cases q3
        · have HF : Hid (lineOK M v = false) := by
            unfold Hid; rw [HOK3.out, setsOK_back hlt HAO.out]
          go_wp2_with fail
          go_ret2
          exact ⟨_, by rw [HF.out]; rfl, Lib.hid (fun h => by rw [HF.out] at h; cases h), HBW.out⟩
        have HSO2 : Hid (setsOK M.attrs e.sets (k + 1) = true) := by unfold Hid; rw [setsOK_succ, HSO.out, HAO.out]; rfl
        obtain ⟨pr, hpr⟩ : ∃ pr, itoaB xv = pr := ⟨_, rfl⟩
        have hprs := itoa_size xv HX6.out
        have HPR : Hid (∀ W, Below wl.heap.size wl W → Calls Tryd.prog 20 #[.int .i64 xv] W fun e w' => e = .returned (.string pr) ∧ Below W.heap.size W w') := fun W _ => by
          rw [← hpr]; exact rprint_any W xv HX6.out.1 HX6.out.2
        rw [hpr] at HPC hprs
        have hn1 : ¬ 9223372036854775807 < sa.size + 3 := by omega
        have hn2 : ¬ 9223372036854775807 < sa.size + 3 + pr.size := by omega
        clear hpr HX6 HAO HSO HXV2
        by_cases h0 : k = 0
        · subst h0
          have HAC2 : Hid (accT M.attrs e.sets v.vals BT 1 = TT ++ setsW ++ (sa ++ eqW ++ pr)) := by unfold Hid; rw [HAC.out, if_pos rfl, HPC.out]
          have hn3 : ¬ 9223372036854775807 < TT.size + 6 := by omega
          have hn4 : ¬ 9223372036854775807 < TT.size + 6 + (sa.size + 3 + pr.size) := by omega
          clear HAC HPC
          have HSF0 : Hid (∀ W, Below wl.heap.size wl W → W.cell? ⟨w.heap.size, 0, none⟩ = some (.slice (some ⟨ba, oa, none⟩) n0 k0) ∧ W.cell? ⟨ba, oa + A, none⟩ = some (.string sa) ∧ W.cell? ⟨w.heap.size + 1, 2, none⟩ = some (.slice (some ⟨bv, ov, none⟩) nv kv) ∧ W.cell? ⟨bv, ov, none⟩ = some (.int .i64 xv) ∧ W.cell? ⟨w4.heap.size, 3, none⟩ = some (.slice (some ⟨bs, os, none⟩) nv ks) ∧ W.cell? ⟨bs, os, none⟩ = some (.int .i64 A)) := fun W hW => HSF.out W hW
          obtain ⟨r0, r1, r2, r3, r4, r5⟩ := HSF0.out wc HB.out
          have hbz : Below wl.heap.size wl wc.drew := HB.out.drew
          go_upto_region 17 with fail
          go_region_held3 (fun w' => w'.cell? ⟨w.heap.size, 0, none⟩ = some (.slice (some ⟨ba, oa, none⟩) n0 k0) ∧ w'.cell? ⟨ba, oa + A, none⟩ = some (.string sa) ∧ w'.cell? ⟨w.heap.size + 1, 2, none⟩ = some (.slice (some ⟨bv, ov, none⟩) nv kv) ∧ w'.cell? ⟨bv, ov, none⟩ = some (.int .i64 xv) ∧ w'.cell? ⟨w4.heap.size, 3, none⟩ = some (.slice (some ⟨bs, os, none⟩) nv ks) ∧ w'.cell? ⟨bs, os, none⟩ = some (.int .i64 A))
              (first | exact HSF0.out _ (by assumption) | go_keep)
              (first
                | (go_simp; go_at_call 20; (with_reducible refine (HPR.out _ (by assumption)).mono ?_)
                   rintro e' w12 ⟨rfl, hbs⟩
                   have hbz := hbz.trans (hbs.mono hbz.size)
                   clear hbs))
          all_goals
            go_wp2_with fail
            go_roundw
            case rel => exact ⟨1, by omega, by go_num, by rw [HAC2.out]; rfl, HSO2, Lib.hid hbz⟩
            case measure => simp [intOf]; omega
        · have hkz : ((k : Int) == 0) = false := by simp [h0]
          have HAC2 : Hid (accT M.attrs e.sets v.vals BT (k + 1) = TT ++ commaW ++ (sa ++ eqW ++ pr)) := by unfold Hid; rw [HAC.out, if_neg h0, HPC.out]
          have hn3 : ¬ 9223372036854775807 < TT.size + 2 := by omega
          have hn4 : ¬ 9223372036854775807 < TT.size + 2 + (sa.size + 3 + pr.size) := by omega
          have hk0' : ¬ (k : Int) = 0 := by omega
          clear HAC HPC h0
          obtain ⟨r0, r1, r2, r3, r4, r5⟩ := HSF.out wc HB.out
          have hbz : Below wl.heap.size wl wc.drew := HB.out.drew
          go_upto_region 17 with fail
          go_region_held3 (fun w' => w'.cell? ⟨w.heap.size, 0, none⟩ = some (.slice (some ⟨ba, oa, none⟩) n0 k0) ∧ w'.cell? ⟨ba, oa + A, none⟩ = some (.string sa) ∧ w'.cell? ⟨w.heap.size + 1, 2, none⟩ = some (.slice (some ⟨bv, ov, none⟩) nv kv) ∧ w'.cell? ⟨bv, ov + k, none⟩ = some (.int .i64 xv) ∧ w'.cell? ⟨w4.heap.size, 3, none⟩ = some (.slice (some ⟨bs, os, none⟩) nv ks) ∧ w'.cell? ⟨bs, os + k, none⟩ = some (.int .i64 A))
              (first | exact HSF.out _ (by assumption) | go_keep)
              (first
                | (go_simp; go_at_call 20; (with_reducible refine (HPR.out _ (by assumption)).mono ?_)
                   rintro e' w12 ⟨rfl, hbs⟩
                   have hbz := hbz.trans (hbs.mono hbz.size)
                   clear hbs))
          all_goals
            go_wp2_with fail
            go_roundw
            case rel => exact ⟨k + 1, by omega, by go_num, by rw [HAC2.out]; rfl, HSO2, Lib.hid hbz⟩
            case measure => simp [intOf]; omega
    · obtain rfl : k = nv := by omega
      have HFL : Hid (lineOK M v = true) := by unfold Hid; rw [HOK3.out, HSO.out]
      have HLT2 : Hid (lineT M v = TT ++ endW) := by unfold Hid; rw [HLT.out, HTT.out]
      have hn3 : ¬ 9223372036854775807 < TT.size + 2 := by omega
      clear HAC HLT HTT
      go_wp2_with fail
      go_ret2
      exact ⟨_, by rw [HFL.out]; rfl, Lib.hid (fun _ => HLT2.out.symm), HBW.out⟩

end Go.Proofs.YtgmijfmbbaipfaaDoor
