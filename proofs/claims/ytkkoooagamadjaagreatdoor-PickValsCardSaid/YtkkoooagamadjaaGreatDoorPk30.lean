/- Drop of package drop: of any zone, wherever it lies. write.Write. -/
import Derived.Test.YtkkoooagamadjaaGreatDoorPk09
import Derived.Test.YtkkoooagamadjaaGreatDoorPk11
import Derived.Test.YtkkoooagamadjaaGreatDoorPk29
import Derived.Test.YtkkoooagamadjaaGreatDoorPk19

namespace Go.Proofs.YtkkoooagamadjaaGreatDoor
open Go.RowKit


set_option maxHeartbeats 400000 in
theorem formedI_any (v1 v2 : Value) (cl : List (Int × Int)) (gl : List Int) (w : World) (hz : ZoneIn w v1 v2 cl gl) (hcl : cl.length ≤ 65536) :
    Calls Tryz.prog 51 #[.agg #[v1, v2]] w fun e w' => e = .returned (.bool (decide (gl.length = cl.length - 1))) ∧ Below w.heap.size w w' := by
  obtain ⟨ad1, cap1, rfl⟩ := hz.1.len
  obtain ⟨ad2, cap2, rfl⟩ := hz.2.len
  obtain ⟨n, hn⟩ : ∃ n, cl.length = n := ⟨_, rfl⟩
  obtain ⟨m, hm⟩ : ∃ m, gl.length = m := ⟨_, rfl⟩
  rw [hn] at hcl ⊢; rw [hm]
  clear hz hn hm
  have hcase : n = 0 ∨ n = 1 ∨ 1 < n := by omega
  rcases hcase with rfl | rfl | h1
  all_goals
    go_enter Tryz.func51, Tryz.ntmps51
    go_wp2
    go_ret
    refine ⟨ret_bool ?_, (Below.refl _ w).alloc (Nat.le_refl _) _⟩
    rw [Bool.eq_iff_iff]
    simp
    try omega

set_option maxRecDepth 100000 in
set_option maxHeartbeats 4000000 in
theorem dropI_any (v1 v2 : Value) (cl0 : List (Int × Int)) (gl0 : List Int) (a r : Int) (w : World) (hz : ZoneIn w v1 v2 cl0 gl0) (hcl : cl0.length ≤ 65536) (hgl : gl0.length ≤ 65536) :
    Calls Tryz.prog 21 #[.agg #[v1, v2], .int .i64 a, .int .i64 r] w fun e w' => ∃ g1 cap1 g2 cap2, e = .returned (.agg #[.slice (some ⟨g1, 0, none⟩) (dropZ a r cl0 gl0).1.length cap1, .slice (some ⟨g2, 0, none⟩) (dropZ a r cl0 gl0).2.length cap2]) ∧
      ZoneAt w' w.heap.size (.slice (some ⟨g1, 0, none⟩) (dropZ a r cl0 gl0).1.length cap1) (.slice (some ⟨g2, 0, none⟩) (dropZ a r cl0 gl0).2.length cap2) (dropZ a r cl0 gl0).1 (dropZ a r cl0 gl0).2 ∧ Below w.heap.size w w' := by
  have x1 := (Box2.new w v1 v2).alloc (.cells #[.slice none 0 0, .slice none 0 0] 28)
  have x2 := Box2.new (w.alloc (.cells #[v1, v2] 28)) (.slice none 0 0) (.slice none 0 0)
  simp only [World.size_alloc] at x2
  have hb0 : Below w.heap.size w ((w.alloc (.cells #[v1, v2] 28)).alloc (.cells #[.slice none 0 0, .slice none 0 0] 28)) := ((Below.refl _ w).alloc (Nat.le_refl _) _).alloc (by simp) _
  have z0 : ZoneIn ((w.alloc (.cells #[v1, v2] 28)).alloc (.cells #[.slice none 0 0, .slice none 0 0] 28)) v1 v2 cl0 gl0 := hz.below hb0
  have hs0 : ((w.alloc (.cells #[v1, v2] 28)).alloc (.cells #[.slice none 0 0, .slice none 0 0] 28)).heap.size = w.heap.size + 2 := by simp
  have hown := Lib.hid (dropOwnI_any v1 v2 cl0 gl0 _ z0 hcl hgl)
  obtain ⟨N, hN⟩ : ∃ N, cl0.length = N := ⟨_, rfl⟩
  obtain ⟨M, hM⟩ : ∃ M, gl0.length = M := ⟨_, rfl⟩
  rw [hN] at hcl; rw [hM] at hgl
  have X1 := Lib.hid x1; have X2 := Lib.hid x2; have HB0 := Lib.hid hb0; have Z0 := Lib.hid z0; have HS0 := Lib.hid hs0
  have HN := Lib.hid hN; have HM := Lib.hid hM
  clear x1 x2 hb0 z0 hs0 hN hM
  go_enter Tryz.func21, Tryz.ntmps21
  go_wp2_with fail
  refine hown.out.mono ?_
  rintro e W2 ⟨g1, g2, rfl, zo, hb⟩
  rw [HN.out, HM.out] at zo ⊢
  have hsz2 := hb.size
  rw [HS0.out] at hsz2 zo
  have y1 := (X1.out.kept (row := none) ⟨hb.os, hb.tape, hb.output, hb.size, fun k hk _ => hb.block k hk⟩ (by simp)).alloc (.cells #[.slice (some ⟨g1, 0, none⟩) N N, .slice (some ⟨g2, 0, none⟩) M M] 28)
  have y2 := (X2.out.kept (row := none) ⟨hb.os, hb.tape, hb.output, hb.size, fun k hk _ => hb.block k hk⟩ (by simp)).alloc (.cells #[.slice (some ⟨g1, 0, none⟩) N N, .slice (some ⟨g2, 0, none⟩) M M] 28)
  have y7 := Box2.new W2 (.slice (some ⟨g1, 0, none⟩) N N) (.slice (some ⟨g2, 0, none⟩) M M)
  have c0 := y1.c0; have c1 := y1.c1
  have hb2 : Below w.heap.size w (W2.alloc (.cells #[.slice (some ⟨g1, 0, none⟩) N N, .slice (some ⟨g2, 0, none⟩) M M] 28)) := (HB0.out.trans (hb.mono HB0.out.size)).alloc (by omega) _
  have z2 : ZoneIn (W2.alloc (.cells #[.slice (some ⟨g1, 0, none⟩) N N, .slice (some ⟨g2, 0, none⟩) M M] 28)) v1 v2 cl0 gl0 := (Z0.out.below hb).below ((Below.refl _ W2).alloc (Nat.le_refl _) _)
  have zo2 : ZoneAt (W2.alloc (.cells #[.slice (some ⟨g1, 0, none⟩) N N, .slice (some ⟨g2, 0, none⟩) M M] 28)) (w.heap.size + 2) (.slice (some ⟨g1, 0, none⟩) N N) (.slice (some ⟨g2, 0, none⟩) M M) cl0 gl0 := zo.below ((Below.refl _ W2).alloc (Nat.le_refl _) _)
  have hfm := Lib.hid (formedI_any v1 v2 cl0 gl0 _ z2 (by rw [HN.out]; exact hcl))
  have Y2 := Lib.hid y2; have Y7 := Lib.hid y7; have HB2 := Lib.hid hb2; have ZO := Lib.hid zo2
  clear hb y1 y2 y7 hb2 z2 zo zo2 X1 X2 HB0 Z0 hown
  go_wp2_with fail
  refine hfm.out.mono ?_
  rintro e W3 ⟨rfl, hb⟩
  rw [HN.out, HM.out]
  have u2 := Y2.out.kept (row := none) ⟨hb.os, hb.tape, hb.output, hb.size, fun k hk _ => hb.block k hk⟩ (by simp)
  have u7 := Y7.out.kept (row := none) ⟨hb.os, hb.tape, hb.output, hb.size, fun k hk _ => hb.block k hk⟩ (by simp)
  have HB3 := Lib.hid (HB2.out.trans (hb.mono HB2.out.size))
  have ZO3 := Lib.hid (ZO.out.below hb)
  have e0 := u7.c0; have e1 := u7.c1
  have e2 := u2.z0 0; have e3 := u2.z0 1; have e4 := u2.c0; have e5 := u2.c1
  have U2 := Lib.hid u2; have U7 := Lib.hid u7
  clear hb u2 u7 Y2 Y7 HB2 ZO c0 c1 hfm
  by_cases hform : M = N - 1
  · have hd : decide (M = N - 1) = true := by simp [hform]
    have HD : Hid (dropGo a r N 0 cl0 gl0 = dropZ a r cl0 gl0) := by unfold Hid dropZ; rw [HN.out, HM.out, if_pos hform]
    have HF := Lib.hid hform
    clear hform
    obtain rfl : M = N - 1 := HF.out
    go_wp2
    go_loopw [8, 9] (fun i _ wr => ∃ (k n g1 cap1 g2 cap2 : Nat) (cl : List (Int × Int)) (gl : List Int), i = .int .i64 k ∧ k ≤ n ∧ n ≤ 65536 ∧ Hid (DropAt w W2.heap.size (dropZ a r cl0 gl0) a r k n cl gl g1 cap1 g2 cap2 wr)) (fun i _ wr => boxLen wr W2.heap.size - (intOf i).toNat)
    case atStart => exact ⟨0, N, g1, N, g2, N - 1, cl0, gl0, rfl, Nat.zero_le _, hcl, ⟨U7.out, U2.out, ZO3.out, HB3.out, HN.out, HM.out, HD.out, hsz2⟩⟩
    case round =>
      clear U2 U7 ZO3 HB3 e0 e1 e2 e3 e4 e5 hd
      obtain ⟨k, n, G1, cap1, G2, cap2, cl, gl, rfl, hk, hn, HA⟩ := hrel
      have c0 := HA.out.box.c0
      have hbl := Lib.hid HA.out.box.len
      by_cases hlt : k < n
      · obtain ⟨x, y, hxy⟩ : ∃ x y, cl.getD k (0, 0) = (x, y) := ⟨_, _, rfl⟩
        have hz1 := HA.out.zone.1
        rw [HA.out.len] at hz1
        have hln := HA.out.len
        have hx : cl[k]? = some (x, y) := by rw [← hxy, List.getD_eq_getElem?_getD, List.getElem?_eq_getElem (by omega)]; rfl
        have cx := cellsP_get _ _ _ hx
        have k1 : wr.cell? ⟨G1, k * 2, none⟩ = some (.int .i64 x) := by rw [hz1.cellAt _ (by omega)]; exact cx.1
        have k2 : wr.cell? ⟨G1, k * 2 + 1, none⟩ = some (.int .i64 y) := by rw [hz1.cellAt _ (by omega)]; exact cx.2
        have HX := Lib.hid hxy; have HL := Lib.hid hln
        clear hz1 hln hxy hx cx
        cases hh : hasB x a
        · have HH := Lib.hid hh
          have HG : Hid (DropAt w W2.heap.size (dropZ a r cl0 gl0) a r (k + 1) n cl gl G1 cap1 G2 cap2 wr) := by
            obtain ⟨h1, h2, h3, h4, h5, h6, h7, h8⟩ := HA.out
            refine ⟨h1, h2, h3, h4, h5, h6, ?_, h8⟩
            rw [show n - k = (n - (k + 1)) + 1 by omega, dropGo, HX.out, if_pos hh] at h7
            exact h7
          clear hh
          go_wp2_with (go_at_call 52; refine (has_any _ _ _).mono ?_; rintro e w' ⟨rfl, rfl⟩; rw [HH.out])
          go_roundw
          case rel => exact ⟨k + 1, n, G1, cap1, G2, cap2, cl, gl, by go_num, by omega, hn, HG⟩
          case measure => rw [hbl.out]; simp [intOf]; omega
        · have HH := Lib.hid hh
          obtain ⟨z, hz⟩ : ∃ z, putZ x a false = z := ⟨_, rfl⟩
          have HZ := Lib.hid hz
          have Z1 := HA.out.zone.1
          have Z2 := HA.out.zone.2
          rw [HL.out] at Z1; rw [HA.out.gap] at Z2
          obtain ⟨cur1, q1, b1⟩ := owns_row Z1
          obtain ⟨cur2, q2, b2⟩ := owns_row Z2
          have hG12 : G1 ≠ G2 := fun e => by subst e; rw [q1] at q2; cases q2
          have hB1 : W2.heap.size ≠ G1 := fun e => by have := HA.out.box; unfold Box2 at this; rw [e, q1] at this; cases this
          have hB2 : W2.heap.size ≠ G2 := fun e => by have := HA.out.box; unfold Box2 at this; rw [e, q2] at this; cases this
          have f1 : wr.frozen? ⟨G1, k * 2, none⟩ = false := owns_frozen Z1 (k * 2)
          have hlen2 : (cl.set k (z, y)).length = n := by rw [List.length_set]; exact HL.out
          have HAS : Hid (Box2 (wr.setCell ⟨G1, k * 2, none⟩ (.int .i64 z)) W2.heap.size (.slice (some ⟨G1, 0, none⟩) n cap1) (.slice (some ⟨G2, 0, none⟩) (n - 1) cap2) ∧ Box2 (wr.setCell ⟨G1, k * 2, none⟩ (.int .i64 z)) (w.heap.size + 1) (.slice none 0 0) (.slice none 0 0) ∧
              ZoneAt (wr.setCell ⟨G1, k * 2, none⟩ (.int .i64 z)) (w.heap.size + 2) (.slice (some ⟨G1, 0, none⟩) n cap1) (.slice (some ⟨G2, 0, none⟩) (n - 1) cap2) (cl.set k (z, y)) gl ∧ Below w.heap.size w (wr.setCell ⟨G1, k * 2, none⟩ (.int .i64 z))) := by
            have hx : cl[k]? = some (x, y) := by rw [← HX.out, List.getD_eq_getElem?_getD, List.getElem?_eq_getElem (by rw [HL.out]; exact hlt)]; rfl
            refine ⟨HA.out.box.other _ hB1 _, HA.out.res.other _ (by simp; omega) _, ⟨?_, ownsRow_setCell_other HA.out.zone.2 (by simp [Value.ownBlock]; omega) _⟩, HA.out.low.setCell (p := ⟨G1, k * 2, none⟩) (by simp; omega) _⟩
            rw [hlen2, cellsP_set1 _ _ _ _ _ hx]
            exact owns_set Z1 _ _
          have hlow := HA.out.low.size
          have HGP := Lib.hid HA.out.gap
          have HGO : Hid ((if z = 0 ∧ y = -1 then dropGo a r (n - k - 1) k ((cl.set k (z, y)).eraseIdx k) (cutG gl n k r) else dropGo a r (n - k - 1) (k + 1) (cl.set k (z, y)) gl) = dropZ a r cl0 gl0) := by
            have h7 := HA.out.go
            rw [show n - k = (n - k - 1) + 1 by omega, dropGo, HX.out] at h7
            simp only [hh, Bool.true_eq_false, if_false] at h7
            rw [hz, HL.out] at h7
            exact h7
          have c2 := HA.out.box.c1
          have d0 := HAS.out.1.c0; have d1 := HAS.out.1.c1; have d2 := HAS.out.1.z0 0; have d3 := HAS.out.1.z0 1
          have d4 : (wr.setCell ⟨G1, k * 2, none⟩ (.int .i64 z)).cell? ⟨G1, k * 2, none⟩ = some (.int .i64 z) := by go_simp
          have d5 : (wr.setCell ⟨G1, k * 2, none⟩ (.int .i64 z)).cell? ⟨G1, k * 2 + 1, none⟩ = some (.int .i64 y) := by go_simp
          have hIB := HA.out.ib
          clear hh hz q1 q2 Z1 Z2
          by_cases hz0 : z = 0
          · by_cases hy0 : y = -1
            · have p1 : (z == 0) = true := by simp [hz0]
              have p2 : (y == -1) = true := by simp [hy0]
              have HC := Lib.hid (cut_run (w.heap.size + 2) G1 G2 n (n - 1) cap1 cap2 k (cl.set k (z, y)) gl r _ HAS.out.2.2.1 hlen2 HGP.out hn rfl hlt)
              have HGN : Hid (dropGo a r (n - 1 - k) k ((cl.set k (z, y)).eraseIdx k) (cutG gl n k r) = dropZ a r cl0 gl0) := by
                have := HGO.out
                rw [if_pos ⟨hz0, hy0⟩, show n - k - 1 = n - 1 - k by omega] at this
                exact this
              have HL2 : Hid (((cl.set k (z, y)).eraseIdx k).length = n - 1) := by unfold Hid; rw [List.length_eraseIdx_of_lt (by omega)]; omega
              have HL3 := Lib.hid (cutG_len gl n k r HGP.out hlt)
              clear hz0 hy0
              go_wp2_with first
                | (go_at_call 52; refine (has_any _ _ _).mono ?_; rintro e w' ⟨rfl, rfl⟩; rw [HH.out])
                | (go_at_call 53; refine (without_any _ _ _).mono ?_; rintro e w' ⟨rfl, rfl⟩; rw [HZ.out])
              refine HC.out.mono ?_
              rintro e W5 ⟨_, _, rfl, rfl, rfl, z5, k5⟩
              have t1 := HAS.out.1.two k5 hB1 hB2
              have t2 := HAS.out.2.1.two k5 (by omega) (by omega)
              have d6 := t1.c0; have d7 := t1.c1; have d8 := t1.z0 0; have d9 := t1.z0 1
              have hl5 := t1.lt
              have hsw : w.heap.size ≤ (wr.setCell ⟨G1, k * 2, none⟩ (.int .i64 z)).heap.size := HAS.out.2.2.2.size
              have t3 := HAS.out.2.2.2.trans (k5.below (base := w.heap.size) (by omega) (by omega) hsw)
              have HG : Hid (DropAt w W2.heap.size (dropZ a r cl0 gl0) a r k (n - 1) ((cl.set k (z, y)).eraseIdx k) (cutG gl n k r) G1 cap1 G2 cap2 ((W5.setCell ⟨W2.heap.size, 0, none⟩ (.slice (some ⟨G1, 0, none⟩) (n - 1) cap1)).setCell ⟨W2.heap.size, 1, none⟩ (.slice (some ⟨G2, 0, none⟩) (n - 1 - 1) cap2))) :=
                ⟨(t1.s0 _).s1 _, (t2.other _ (by simp; omega) _).other _ (by simp; omega) _, ⟨ownsRow_setCell_other (ownsRow_setCell_other z5.1 (t1.row z5.1 (by decide)) _) (t1.row z5.1 (by decide)) _, ownsRow_setCell_other (ownsRow_setCell_other z5.2 (t1.row z5.2 (by decide)) _) (t1.row z5.2 (by decide)) _⟩,
                  (t3.setCell (p := ⟨W2.heap.size, 0, none⟩) (by simp; omega) _).setCell (p := ⟨W2.heap.size, 1, none⟩) (by simp; omega) _, HL2.out, HL3.out, HGN.out, hIB⟩
              have hbl2 := Lib.hid HG.out.box.len
              clear t1 t2 t3 z5 k5 hsw HC
              go_wp2
              go_roundw
              case rel => exact ⟨k, n - 1, G1, cap1, G2, cap2, _, _, rfl, by omega, by omega, HG⟩
              case measure => rw [hbl.out, hbl2.out]; simp [intOf]; omega
            · have p1 : (z == 0) = true := by simp [hz0]
              have p2 : (y == -1) = false := by simp [hy0]
              have HG : Hid (DropAt w W2.heap.size (dropZ a r cl0 gl0) a r (k + 1) n (cl.set k (z, y)) gl G1 cap1 G2 cap2 (wr.setCell ⟨G1, k * 2, none⟩ (.int .i64 z))) := by
                refine ⟨HAS.out.1, HAS.out.2.1, HAS.out.2.2.1, HAS.out.2.2.2, hlen2, HGP.out, ?_, hIB⟩
                have := HGO.out
                rw [if_neg (by simp [hy0])] at this
                exact this
              have hbl2 := Lib.hid HAS.out.1.len
              clear hz0 hy0
              go_wp2_with first
                | (go_at_call 52; refine (has_any _ _ _).mono ?_; rintro e w' ⟨rfl, rfl⟩; rw [HH.out])
                | (go_at_call 53; refine (without_any _ _ _).mono ?_; rintro e w' ⟨rfl, rfl⟩; rw [HZ.out])
              go_roundw
              case rel => exact ⟨k + 1, n, G1, cap1, G2, cap2, cl.set k (z, y), gl, by go_num, by omega, hn, HG⟩
              case measure => rw [hbl.out, hbl2.out]; simp [intOf]; omega
          · have p1 : (z == 0) = false := by simp [hz0]
            have HG : Hid (DropAt w W2.heap.size (dropZ a r cl0 gl0) a r (k + 1) n (cl.set k (z, y)) gl G1 cap1 G2 cap2 (wr.setCell ⟨G1, k * 2, none⟩ (.int .i64 z))) := by
              refine ⟨HAS.out.1, HAS.out.2.1, HAS.out.2.2.1, HAS.out.2.2.2, hlen2, HGP.out, ?_, hIB⟩
              have := HGO.out
              rw [if_neg (by simp [hz0])] at this
              exact this
            have hbl2 := Lib.hid HAS.out.1.len
            clear hz0
            go_wp2_with first
              | (go_at_call 52; refine (has_any _ _ _).mono ?_; rintro e w' ⟨rfl, rfl⟩; rw [HH.out])
              | (go_at_call 53; refine (without_any _ _ _).mono ?_; rintro e w' ⟨rfl, rfl⟩; rw [HZ.out])
            go_roundw
            case rel => exact ⟨k + 1, n, G1, cap1, G2, cap2, cl.set k (z, y), gl, by go_num, by omega, hn, HG⟩
            case measure => rw [hbl.out, hbl2.out]; simp [intOf]; omega
      · obtain rfl : k = n := by omega
        have HR : Hid (dropZ a r cl0 gl0 = (cl, gl)) := by
          have := HA.out.go
          rw [Nat.sub_self, dropGo] at this
          exact this.symm
        have c2 := HA.out.box.c1
        have c3 := HA.out.res.c0; have c4 := HA.out.res.c1; have c5 := HA.out.res.z0 0; have c6 := HA.out.res.z0 1
        have c7 := HA.out.res.lt
        have HL := Lib.hid HA.out.len; have HGP := Lib.hid HA.out.gap
        go_wp2
        have v1 := (HA.out.res.s0 (.slice (some ⟨G1, 0, none⟩) k cap1)).s1 (.slice (some ⟨G2, 0, none⟩) (k - 1) cap2)
        have e6 := v1.c0; have e7 := v1.c1
        refine bodyPost_ret (v := .agg #[.slice (some ⟨G1, 0, none⟩) k cap1, .slice (some ⟨G2, 0, none⟩) (k - 1) cap2]) (by simp [results, Tryz.results21, go_sem, e6, e7]) rfl ?_
        rw [HR.out]
        dsimp only
        rw [HL.out, HGP.out]
        refine ⟨_, _, _, _, rfl, ZoneAt.mono ⟨?_, ?_⟩ (by omega : w.heap.size ≤ w.heap.size + 2), (HA.out.low.setCell (p := ⟨w.heap.size + 1, 0, none⟩) (by simp) _).setCell (p := ⟨w.heap.size + 1, 1, none⟩) (by simp) _⟩
        · exact ownsRow_setCell_other (ownsRow_setCell_other HA.out.zone.1 (HA.out.res.row HA.out.zone.1 (by decide)) _) (HA.out.res.row HA.out.zone.1 (by decide)) _
        · exact ownsRow_setCell_other (ownsRow_setCell_other HA.out.zone.2 (HA.out.res.row HA.out.zone.2 (by decide)) _) (HA.out.res.row HA.out.zone.2 (by decide)) _
  · have hd : decide (M = N - 1) = false := by simp [hform]
    have HD : Hid (dropZ a r cl0 gl0 = (cl0, gl0)) := by unfold Hid dropZ; rw [HN.out, HM.out, if_neg hform]
    clear hform
    go_wp2
    have v1 := (U2.out.s0 (.slice (some ⟨g1, 0, none⟩) N N)).s1 (.slice (some ⟨g2, 0, none⟩) M M)
    have e6 := v1.c0; have e7 := v1.c1
    refine bodyPost_ret (v := .agg #[.slice (some ⟨g1, 0, none⟩) N N, .slice (some ⟨g2, 0, none⟩) M M]) (by simp [results, Tryz.results21, go_sem, e6, e7]) rfl ?_
    rw [HD.out]
    dsimp only
    rw [HN.out, HM.out]
    refine ⟨_, _, _, _, rfl, ZoneAt.mono ⟨?_, ?_⟩ (by omega : w.heap.size ≤ w.heap.size + 2), (HB3.out.setCell (p := ⟨w.heap.size + 1, 0, none⟩) (by simp) _).setCell (p := ⟨w.heap.size + 1, 1, none⟩) (by simp) _⟩
    · exact ownsRow_setCell_other (ownsRow_setCell_other ZO3.out.1 (U2.out.row ZO3.out.1 (by decide)) _) (U2.out.row ZO3.out.1 (by decide)) _
    · exact ownsRow_setCell_other (ownsRow_setCell_other ZO3.out.2 (U2.out.row ZO3.out.2 (by decide)) _) (U2.out.row ZO3.out.2 (by decide)) _

end Go.Proofs.YtkkoooagamadjaaGreatDoor

namespace Go.Proofs.YtkkoooagamadjaaGreatDoor
open Go.RowKit Go.Shelf

theorem zcells_app (ps qs : List (Value × Value)) : zcells (ps ++ qs) = zcells ps ++ zcells qs := by simp [zcells]
/-- a row of zones behind another one -/
theorem ZonesAt.appRow {W : World} {base b2 : Nat} {v v2 : Value} {zs ys : List Zn} (h : ZonesAt W base v zs) (h2 : ZonesAt W b2 v2 ys) (hb : base ≤ b2) (hs : base ≤ W.heap.size) (hl : zs.length + ys.length ≤ 100000) (ty : TypeId) :
    ∃ ad cap w', (Builtin.append_ #[30, 30] ty #[v, v2]).run Tryz.prog W = .ok (.slice ad (zs.length + ys.length) cap) w' ∧ ZonesAt w' base (.slice ad (zs.length + ys.length) cap) (zs ++ ys) ∧ Below base W w' := by
  obtain ⟨ps, hpl, hr, hz⟩ := h
  obtain ⟨qs, hql, hq, hy⟩ := h2
  have hone : ∀ u ∈ zcells qs, u.oneCell' = true := by
    intro u hu
    obtain ⟨p, hp, hu⟩ := List.mem_flatMap.1 hu
    obtain ⟨i, hi⟩ := List.getElem?_of_mem hp
    have hil := (List.getElem?_eq_some_iff.1 hi).1
    obtain ⟨y, hyi⟩ : ∃ y, ys[i]? = some y := ⟨_, List.getElem?_eq_getElem (by omega)⟩
    have hz' := hy i p y hi hyi
    simp only [List.mem_cons, List.not_mem_nil, or_false] at hu
    rcases hu with rfl | rfl
    · exact owns_one2 hz'.1
    · exact owns_one1 hz'.2
  obtain ⟨v', w', hrun, ho, hg⟩ := appK_run (P := Tryz.prog) W 30 ty 28 (.agg #[.slice none 0 0, .slice none 0 0]) 2 48 base Tryz.underlying30 info_zone rfl (by decide) (by decide) v zs.length (zcells ps) hr v2 ys.length (zcells qs) (.of_owns hq) hone (by omega) hs
  obtain ⟨ad, cap, hv⟩ := owns_len ho
  subst hv
  refine ⟨ad, cap, w', hrun, ⟨ps ++ qs, by simp [hpl, hql], ?_, ?_⟩, (Below.refl _ W).grown hg hs (fun k hk => (hr.lt k hk).1)⟩
  · rw [zcells_app, List.length_append]; exact ho
  · intro i p y h1 h2
    by_cases hi : i < zs.length
    · rw [List.getElem?_append_left (by omega)] at h1 h2
      exact (hz i p y h1 h2).grown hr hg
    · rw [List.getElem?_append_right (by omega)] at h1 h2
      rw [hpl] at h1
      have hz' := hy _ p y h1 h2
      exact ZoneAt.grown ⟨owns_mono hz'.1 hb, owns_mono hz'.2 hb⟩ hr hg

/-- what may be asked of a list that is written -/
def WrOK : Int → List Int → List Zn → Prop
  | _, [], _ => True
  | r, a :: l, zs => r ≤ 6 ∧ zs.length ≤ 10000 ∧ (∀ z ∈ zs, z.1.length ≤ 60 ∧ z.2.length ≤ 60) ∧ (zs.flatMap (wrOne a r)).length ≤ 10000 ∧ (∀ y ∈ zs.flatMap (wrOne a r), SmallZ y ∧ I64 y) ∧ WrOK (r - 1) l (wrStep a r zs)

theorem take_flat (f : Zn → List Zn) (zs : List Zn) (k : Nat) (z : Zn) (h : zs[k]? = some z) : (zs.take (k + 1)).flatMap f = (zs.take k).flatMap f ++ f z := by
  rw [List.take_add_one, h]; simp
theorem flat_le (f : Zn → List Zn) (zs : List Zn) (k : Nat) : ((zs.take k).flatMap f).length ≤ (zs.flatMap f).length := by
  conv => rhs; rw [← List.take_append_drop k zs]
  rw [List.flatMap_append, List.length_append]; omega

set_option maxRecDepth 100000 in
set_option maxHeartbeats 4000000 in
theorem write_any {w : World} (ht : PTab w) {v1 v2 lv : Value} {z : Zn} {l : List Int} (r : Int) (hz : ZoneIn w v1 v2 z.1 z.2) (hcv : CapV v1 ∧ CapV v2) (hlv : RdK w 1 lv l.length (ints l)) (hl : l.length ≤ 100) (hr : -1000 ≤ r) (hr2 : r ≤ 1000) (hok : WrOK r l [z]) :
    Calls Tryz.prog 7 #[.agg #[v1, v2], lv, .int .i64 r] w fun e w' => ∃ v', e = .returned v' ∧ ZIs w' v' (writeL r l [z]) ∧ Below w.heap.size w w' := by
  obtain ⟨ad1, k1, e1⟩ := hz.1.len
  obtain ⟨ad2, k2, e2⟩ := hz.2.len
  obtain ⟨la, lc, e3⟩ := hlv.len
  obtain ⟨n, hn⟩ : ∃ n, l.length = n := ⟨_, rfl⟩
  rw [hn] at e3 hl
  subst e1; subst e2; subst e3
  obtain ⟨W1, hW1⟩ : ∃ W1, w.alloc (.cells #[.slice ad1 z.1.length k1, .slice ad2 z.2.length k2] 28) = W1 := ⟨_, rfl⟩
  have hs1 : W1.heap.size = w.heap.size + 1 := by rw [← hW1]; simp
  have hb1 : Below w.heap.size w W1 := by rw [← hW1]; exact (Below.refl _ _).alloc (Nat.le_refl _) _
  have x1 : Blk W1 w.heap.size #[.slice ad1 z.1.length k1, .slice ad2 z.2.length k2] 28 := by rw [← hW1]; exact Blk.new _ _ _
  obtain ⟨W2, hW2⟩ : ∃ W2, W1.alloc (.cells #[.slice ad1 z.1.length k1, .slice ad2 z.2.length k2] 28) = W2 := ⟨_, rfl⟩
  have hb12 : Below W1.heap.size W1 W2 := by rw [← hW2]; exact (Below.refl _ _).alloc (Nat.le_refl _) _
  have hb2 : Below w.heap.size w W2 := hb1.trans (hb12.mono hb1.size)
  have c0 := x1.two.1; have c1 := x1.two.2
  have hzi : ZIs W2 (.slice (some ⟨W1.heap.size, 0, none⟩) 1 1) [z] := by
    refine ⟨[(.slice ad1 z.1.length k1, .slice ad2 z.2.length k2)], rfl, ⟨_, _, rfl, rfl, .inr ⟨W1.heap.size, 0, rfl, by rw [← hW2]; simp, fun t x hx => ?_⟩⟩, fun i p y h1 h2 => ?_⟩
    · rw [← hW2, World.cell?_alloc_at _ _ _ _ (by simp)]
      simpa [zcells] using hx
    · have hi := (List.getElem?_eq_some_iff.1 h1).1
      simp only [List.length_cons, List.length_nil] at hi
      obtain rfl : i = 0 := by omega
      simp only [List.getElem?_cons_zero, Option.some.injEq] at h1 h2
      subst h1; subst h2
      exact ⟨hz.below hb2, hcv⟩
  clear hcv
  have HZI := Lib.hid hzi
  have HB2 := Lib.hid hb2
  have HLV := Lib.hid hlv
  have HT := Lib.hid ht; have HN := Lib.hid hn; have HOK := Lib.hid hok
  clear hz hlv ht hn hok hb1 x1 hb12 hb2 hzi hs1
  go_enter Tryz.func7, Tryz.ntmps7
  go_wp2_with fail
  clear hW1 hW2 c0 c1
  go_loopw [2, 7, 17] (fun rv ov i wr => ∃ (k : Nat) (zs : List Zn) (x : Option Addr) (p y : Nat), k ≤ n ∧ i = .int .i64 k ∧ rv = .int .i64 (r - k) ∧ ov = .slice x p y ∧ Hid (ZIs wr (.slice x p y) zs ∧ WrOK (r - k) (l.drop k) zs ∧ writeL (r - k) (l.drop k) zs = writeL r l [z]) ∧ Hid (Below w.heap.size w wr)) (fun _ _ i _ => n - (intOf i).toNat)
  case atStart => exact ⟨0, [z], _, 1, 1, Nat.zero_le _, rfl, int_eq (by omega), rfl, ⟨HZI.out, by rw [show r - ((0 : Nat) : Int) = r by omega]; exact HOK.out, by rw [show r - ((0 : Nat) : Int) = r by omega]; rfl⟩, HB2.out⟩
  case round =>
    clear HZI HB2
    obtain ⟨k, zs, x, p, y, hk, rfl, rfl, rfl, HH, HB⟩ := hrel
    by_cases hlt : k < n
    · have hkn : (k : Int) < (n : Int) := by omega
      have hk0 : (0 : Int) ≤ (k : Int) := by omega
      obtain ⟨a, ha⟩ : ∃ a, l[k]? = some a := ⟨_, List.getElem?_eq_getElem (by rw [HN.out]; exact hlt)⟩
      obtain ⟨bl, ol, hla, _, hlc⟩ := (HLV.out.below HB.out).at (by rw [HN.out]; omega)
      subst hla
      have d0 : wr.cell? ⟨bl, ol + k, none⟩ = some (.int .i64 a) := hlc k _ (by unfold ints; rw [List.getElem?_map, ha]; rfl)
      have hdr : l.drop k = a :: l.drop (k + 1) := by
        have h := List.drop_eq_getElem_cons (show k < l.length by rw [HN.out]; exact hlt)
        rw [h]
        congr 1
        have := List.getElem?_eq_getElem (show k < l.length by rw [HN.out]; exact hlt)
        rw [this] at ha
        exact Option.some.inj ha
      obtain ⟨R, hR⟩ : ∃ R, r - (k : Int) = R := ⟨_, rfl⟩
      obtain ⟨hzi, hwo, hwl⟩ := HH.out
      rw [hdr, hR] at hwo hwl
      obtain ⟨w1, w2, w3, w4, w5, w6⟩ := hwo
      have hR1 : -2000 ≤ R ∧ R ≤ 2000 := by omega
      have hwrp : IntKind.i64.wrap (R - 1) = R - 1 := IntWalk.i64_in _ ⟨by omega, by omega⟩
      have HRK : Hid (R - 1 = r - ((k + 1 : Nat) : Int)) := by unfold Hid; omega
      have HWL : Hid (writeL (R - 1) (l.drop (k + 1)) (wrStep a R zs) = writeL r l [z]) := hwl
      have HW3 := Lib.hid w3; have HW4 := Lib.hid w4; have HW5 := Lib.hid w5; have HW6 := Lib.hid w6
      have HZI := Lib.hid hzi
      have hpl : zs.length = p := by
        obtain ⟨a', b', e⟩ := hzi.len
        simp only [Value.slice.injEq] at e
        exact e.2.1.symm
      have HPL := Lib.hid hpl
      have hp1 : p ≤ 10000 := by omega
      rw [hR]
      clear hR hdr hlc ha hzi hwl w3 w4 w5 w6 hpl w2 HH
      obtain ⟨wo, rfl⟩ : ∃ w1, w1 = wr := ⟨_, rfl⟩
      go_wp2_with fail
      clear d0
      go_loopw [10, 23] (fun nv i wr => ∃ (j q : Nat) (x2 : Option Addr) (y2 : Nat), j ≤ p ∧ i = .int .i64 j ∧ nv = .slice x2 q y2 ∧ q ≤ 10000 ∧ Hid (ZonesAt wr wo.heap.size (.slice x2 q y2) ((zs.take j).flatMap (wrOne a R)) ∧ ((zs.take j).flatMap (wrOne a R)).length = q) ∧ Hid (Below wo.heap.size wo wr)) (fun _ i _ => p - (intOf i).toNat)
      case atStart => exact ⟨0, 0, none, 0, Nat.zero_le _, rfl, rfl, Nat.zero_le _, ⟨ZonesAt.nil _ _, rfl⟩, Below.refl _ _⟩
      case round =>
        obtain ⟨j, q, x2, y2, hj, rfl, rfl, hq, HNX, HBI⟩ := hrel
        by_cases hjp : j < p
        · have hjn : (j : Int) < (p : Int) := by omega
          have hj0 : (0 : Int) ≤ (j : Int) := by omega
          obtain ⟨zj, hzj⟩ : ∃ z, zs[j]? = some z := ⟨_, List.getElem?_eq_getElem (by rw [HPL.out]; exact hjp)⟩
          obtain ⟨s1, s2⟩ := HW3.out zj (List.mem_of_getElem? hzj)
          obtain ⟨g, off, u1, u2, hxa, -, -, f0, f1, hzz, -⟩ := (HZI.out.below HBI.out).at hzj
          subst hxa
          obtain ⟨b1, m1, hu1⟩ := hzz.1.len
          obtain ⟨b2, m2, hu2⟩ := hzz.2.len
          subst hu1; subst hu2
          obtain ⟨W5, hW5⟩ : ∃ W5, wr.alloc (.cells #[.slice b1 zj.1.length m1, .slice b2 zj.2.length m2] 28) = W5 := ⟨_, rfl⟩
          have hb5 : Below wr.heap.size wr W5 := by rw [← hW5]; exact (Below.refl _ _).alloc (Nat.le_refl _) _
          have x5 : Blk W5 wr.heap.size #[.slice b1 zj.1.length m1, .slice b2 zj.2.length m2] 28 := by rw [← hW5]; exact Blk.new _ _ _
          have g0 := x5.two.1; have g1 := x5.two.2
          have HB5 := Lib.hid (HBI.out.trans (hb5.mono HBI.out.size))
          have HN5 := Lib.hid (HNX.out.1.below hb5)
          have HQ := Lib.hid HNX.out.2
          have HDR := Lib.hid (dropI_any _ _ zj.1 zj.2 a R W5 (hzz.below hb5) (by omega) (by omega))
          obtain ⟨t1, t2⟩ := dropZ_len a R zj.1 zj.2
          have HTK := Lib.hid (take_flat (wrOne a R) zs j zj hzj)
          have hfl := flat_le (wrOne a R) zs (j + 1)
          rw [HTK.out, List.length_append, HQ.out] at hfl
          have hfl2 : q + (wrOne a R zj).length ≤ 10000 := Nat.le_trans hfl HW4.out
          clear hzj hzz hb5 x5 HNX HBI hfl
          obtain ⟨D, hD⟩ : ∃ D, dropZ a R zj.1 zj.2 = D := ⟨_, rfl⟩
          have hone : wrOne a R zj = putL D.1 D.2 a R := by unfold wrOne; rw [hD]
          rw [hD] at HDR t1 t2
          rw [hone] at hfl2
          rw [hone] at HTK
          have hd60 : D.1.length ≤ 60 := by omega
          clear hone hD
          go_wp2_with fail
          refine HDR.out.mono ?_
          rintro e W6 ⟨gd1, cp1, gd2, cp2, rfl, hzd, hb6⟩
          have HB6 := Lib.hid (HB5.out.trans (hb6.mono HB5.out.size))
          have HN6 := Lib.hid (HN5.out.below hb6)
          have HPU := Lib.hid (putZ_any (a := a) (r := R) (ZoneIn.of_at hzd) hd60 w1)
          clear hzd hb6 g0 g1 f0 f1 HDR HB5 HN5 hW5
          go_wp2_with fail
          refine HPU.out.mono ?_
          rintro e W7 ⟨vp, rfl, hzp, hb7⟩
          obtain ⟨xp, yp, hvp⟩ := hzp.len
          subst hvp
          have HB7 := Lib.hid (HB6.out.trans (hb7.mono HB6.out.size))
          have hn7 := HN6.out.below hb7
          have hsz : wo.heap.size ≤ W6.heap.size := HB6.out.size
          obtain ⟨x3, y3, W8, hrun, hz8, hb8⟩ := hn7.appRow hzp hsz (Nat.le_trans hsz hb7.size) (by rw [HQ.out]; omega) 30
          rw [HQ.out] at hrun hz8
          obtain ⟨P, hP⟩ : ∃ P, (putL D.1 D.2 a R).length = P := ⟨_, rfl⟩
          rw [hP] at hrun hz8 hfl2 ⊢
          have HN8 : Hid (ZonesAt W8 wo.heap.size (.slice x3 (q + P) y3) ((zs.take (j + 1)).flatMap (wrOne a R)) ∧ ((zs.take (j + 1)).flatMap (wrOne a R)).length = q + P) := by
            refine ⟨?_, ?_⟩
            · rw [HTK.out]; exact hz8
            · rw [HTK.out, List.length_append, HQ.out, hP]
          have HB8 := Lib.hid (HB7.out.trans (hb8.mono (Nat.le_refl _)))
          clear hz8 hb8 hn7 hzp hb7 hP HB7 HN6 HB6 HPU HTK
          go_wp2_with (first | (at_builtin; refine wpList_append_known _ rfl _ _ _ _ rfl _ _ rfl rfl _ _ hrun ?_; clear hrun) | fail)
          go_roundw
          case rel => exact ⟨j + 1, q + P, x3, y3, by omega, by go_num, rfl, hfl2, HN8, HB8⟩
          case measure => simp [intOf]; omega
        · obtain rfl : j = p := by omega
          have hn1 := HNX.out.1
          have hq1 := HNX.out.2
          rw [List.take_of_length_le (by rw [HPL.out]; exact Nat.le_refl _)] at hn1 hq1
          have HBO := Lib.hid (HB.out.trans (HBI.out.mono HB.out.size))
          have HUQ := Lib.hid (unique_any (HT.out.keep HBO.out) hn1.zis HW5.out (by rw [hq1]; exact hq))
          clear hn1 hq1 HNX HBI
          go_wp2_with fail
          refine HUQ.out.mono ?_
          rintro e W9 ⟨vu, rfl, hzu, hb9⟩
          obtain ⟨xu, yu, hvu⟩ := hzu.len
          subst hvu
          obtain ⟨P, hP⟩ : ∃ P, (uniqL (zs.flatMap (wrOne a R))).length = P := ⟨_, rfl⟩
          have HZ9 : Hid (ZIs W9 (.slice xu P yu) (wrStep a R zs)) := by rw [hP] at hzu; exact hzu
          have HB9 := Lib.hid (HBO.out.trans (hb9.mono HBO.out.size))
          rw [hP]
          clear hzu hb9 hP HBO HUQ
          go_wp2_with fail
          go_roundw
          case rel => exact ⟨k + 1, wrStep a R zs, xu, P, yu, by omega, by go_num, int_eq HRK.out, rfl, ⟨HZ9.out, by rw [← HRK.out]; exact HW6.out, by rw [← HRK.out]; exact HWL.out⟩, HB9⟩
          case measure => simp [intOf]; omega
    · obtain rfl : k = n := by omega
      have hF := HH.out.1
      have he : writeL (r - (k : Int)) (l.drop k) zs = zs := by
        rw [List.drop_of_length_le (by rw [HN.out]; exact Nat.le_refl _)]; rfl
      rw [← he, HH.out.2.2] at hF
      have HF := Lib.hid hF
      clear hF he HH
      go_wp2
      go_ret
      exact ⟨_, rfl, HF.out, HB.out⟩

end Go.Proofs.YtkkoooagamadjaaGreatDoor
