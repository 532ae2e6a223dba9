/- zone.Of. The law PutPuts. Check of warderref22: sits, classes. Check of warderref22: classes. Check of warderref22: fits. -/
import Derived.Test.YtkkoooagamadjaaGreatDoorWo34
import Derived.StillTailTactics
import Derived.Test.YtkkoooagamadjaaGreatDoorWo21

namespace Go.Proofs.YtkkoooagamadjaaGreatDoor
open Go.RowKit

/-- two rows of unlike elements lie in unlike blocks -/
theorem owns_beside_ne {w : World} {b1 b2 : Nat} {e1 e2 : TypeId} {s1 s2 g1 n1 n2 c1 : Nat} {v2 : Value} {xs1 xs2 : List Value} (h1 : w.ownsRow b1 e1 s1 (.slice (some ⟨g1, 0, none⟩) n1 c1) n2 xs1) {m2 : Nat} (h2 : w.ownsRow b2 e2 s2 v2 m2 xs2) (he : e1 ≠ e2) : v2.ownBlock ≠ some g1 := by
  obtain ⟨cs, hg⟩ : ∃ cs fr, w.heap[g1]? = some (.cells cs e1 fr) := by
    rcases h1.2 with ⟨h0, _⟩ | ⟨g', cap', cur, hv, hb, hg, _⟩
    · cases h0
    · cases hv; exact ⟨_, _, hg⟩
  obtain ⟨fr, hg⟩ := hg
  rcases h2.2 with ⟨rfl, _⟩ | ⟨g', cap', cur, rfl, hb, hg', _⟩
  · simp [Value.ownBlock]
  · intro e
    have e' : g' = g1 := by simpa [Value.ownBlock] using e
    subst e'
    rw [hg] at hg'
    cases hg'
    exact he rfl

set_option maxRecDepth 100000 in
set_option maxHeartbeats 4000000 in
theorem zof_any {w : World} {v0 v1 : Value} {vals consts : List Int} (r : Int) (h0 : RowE intE 1 w v0 vals) (h1 : Reads w v1 (ints consts)) (hc : consts.length ≤ 12) (hv : vals.length + consts.length ≤ 19) (hb : ∀ x ∈ vals ++ consts, In64 x) :
    Calls Tryz.prog 6 #[v0, v1, .int .i64 r] w fun e w' => ∃ u1 u2, e = .returned (.agg #[u1, u2]) ∧ ZoneAt w' w.heap.size u1 u2 (ofZ vals consts r).1 (ofZ vals consts r).2 ∧ Below w.heap.size w w' := by
  obtain ⟨Z, hZ⟩ : ∃ Z, Obj.cells #[.slice none 0 0, .slice none 0 0] 28 = Z := ⟨_, rfl⟩
  obtain ⟨W1, hW1⟩ : ∃ W1, w.alloc (.cells #[.slice none 0 0, .slice none 0 0] 28) = W1 := ⟨_, rfl⟩
  obtain ⟨W2, hW2⟩ : ∃ W2, W1.alloc (.cells #[.slice none 0 0, .slice none 0 0] 28) = W2 := ⟨_, rfl⟩
  have b1 : Below w.heap.size w W1 := by rw [← hW1]; exact (Below.refl _ _).alloc (Nat.le_refl _) _
  have b2 : Below W1.heap.size W1 W2 := by rw [← hW2]; exact (Below.refl _ _).alloc (Nat.le_refl _) _
  have s1 : W1.heap.size = w.heap.size + 1 := by rw [← hW1]; simp
  have s2 : W2.heap.size = W1.heap.size + 1 := by rw [← hW2]; simp
  have x6 : Blk W2 w.heap.size #[.slice none 0 0, .slice none 0 0] 28 := by
    have : Blk W1 w.heap.size #[.slice none 0 0, .slice none 0 0] 28 := by rw [← hW1]; exact Blk.new _ _ _
    exact this.keep b2
  have x7 : Blk W2 W1.heap.size #[.slice none 0 0, .slice none 0 0] 28 := by rw [← hW2]; exact Blk.new _ _ _
  have b12 : Below w.heap.size w W2 := b1.trans (b2.mono b1.size)
  have r0 := h0.below intE_keep b12
  have r1 := h1.below (Nat.le_refl _) b12
  have HP := Lib.hid (points_any r0 r1 hc hv)
  obtain ⟨P, hP⟩ : ∃ P, pntZ vals consts = P := ⟨_, rfl⟩
  obtain ⟨N, hN⟩ : ∃ N, P.length = N := ⟨_, rfl⟩
  have hn19 : N ≤ 19 := by have := pnt_len vals consts; rw [hP] at this; omega
  obtain ⟨gs, hgs⟩ : ∃ gs, gapsZ (kap r) (P.map (·.1)) = gs := ⟨_, rfl⟩
  have hgl : gs.length = N - 1 := by rw [← hgs, gapsZ_len, List.length_map, hN]
  rw [hP, hN] at HP
  have HCL : Hid (P.map (·.2) = (ofZ vals consts r).1) := by unfold Hid; rw [← hP]; exact pnt_cls vals consts r
  have HGS : Hid (gs = (ofZ vals consts r).2) := by unfold Hid; rw [← hgs, ← hP]; exact pnt_gap vals consts r
  have HIN : Hid (∀ p ∈ P, In64 p.1) := Lib.hid fun p hp => hb _ (pnt_in vals consts p (by rw [hP]; exact hp))
  have H0 := Lib.hid h0; have H1 := Lib.hid h1
  have HC := Lib.hid hc; have HV := Lib.hid hv; have HPP := Lib.hid hP; have HN := Lib.hid hN; have HGG := Lib.hid hgs; have HGL := Lib.hid hgl
  have B12 := Lib.hid b12; have X6 := Lib.hid x6; have X7 := Lib.hid x7; have S1 := Lib.hid s1; have S2 := Lib.hid s2
  have hmx : Tryz.prog.follows .mixedOrders = true := by kernel_rfl
  clear h0 h1 r0 r1 b12 b1 b2 x6 x7 hb hP hN hgs hgl hc hv hZ s1 s2
  go_enter Tryz.func6, Tryz.ntmps6
  go_wp2_with fail
  refine HP.out.mono ?_
  rintro e wp ⟨vp, rfl, hop, hbp⟩
  obtain ⟨adp, capp, hvp⟩ := owns_len hop
  subst hvp
  have x6p := X6.out.keep hbp
  have x7p := X7.out.keep hbp
  have hs := S1.out; have hs2 := S2.out; have hsp := hbp.size
  have h7p : W1.heap.size < wp.heap.size := by omega
  have H7P := Lib.hid h7p
  have h67 : w.heap.size ≠ W1.heap.size := by omega
  have H67 := Lib.hid h67
  have X6P := Lib.hid x6p; have X7P := Lib.hid x7p
  have HOP := Lib.hid hop
  have HBP := Lib.hid (B12.out.trans (hbp.mono B12.out.size))
  clear hop hbp x6p x7p HP hs hs2 hsp h7p X6 X7 h67
  go_wp2_with fail
  go_loopw [16] (fun i wr => ∃ k : Nat, k ≤ N ∧ i = .int .i64 k ∧ Hid (ZQ wp W1.heap.size ((P.take k).map (·.2)) (List.replicate (k - 1) 0) wr)) (fun i _ => N - (intOf i).toNat)
  case atStart => exact ⟨0, Nat.zero_le _, rfl, ⟨_, _, X7P.out, World.ownsRow_nil _ _ _ _, World.ownsRow_nil _ _ _ _⟩, ⟨rfl, rfl, rfl, Nat.le_refl _, fun _ _ _ => rfl⟩⟩
  case round =>
    obtain ⟨k, hk, rfl, HA⟩ := hrel
    by_cases hlt : k < N
    · have hkn : (k : Int) < (N : Int) := by omega
      have hk0 : (0 : Int) ≤ (k : Int) := by omega
      obtain ⟨p, hp⟩ : ∃ p, P[k]? = some p := ⟨_, List.getElem?_eq_getElem (by rw [HN.out]; exact hlt)⟩
      have hro := HOP.out.kept HA.out.grown (.inr (X7P.out.row_ne HOP.out (by decide)))
      obtain ⟨gq, q1, t1⟩ := owns_slice hro (by omega)
      cases t1
      obtain ⟨cx0, cx1, cx2⟩ := cellsT_get _ _ _ hp
      have d0 : wr.cell? ⟨gq, k * 3, none⟩ = some (.int .i64 p.1) := by rw [hro.cellAt _ (by omega)]; exact cx0
      have d1 : wr.cell? ⟨gq, k * 3 + 1, none⟩ = some (.int .i64 p.2.1) := by rw [hro.cellAt _ (by omega)]; exact cx1
      have d2 : wr.cell? ⟨gq, k * 3 + 2, none⟩ = some (.int .i64 p.2.2) := by rw [hro.cellAt _ (by omega)]; exact cx2
      have HTK : Hid ((P.take (k + 1)).map (·.2) = (P.take k).map (·.2) ++ [(p.2.1, p.2.2)]) := by unfold Hid; rw [List.take_add_one, hp]; simp
      obtain ⟨cl, hcl⟩ : ∃ cl, (P.take k).map (·.2) = cl := ⟨_, rfl⟩
      have hll : cl.length ≤ 1000 := by rw [← hcl, List.length_map, List.length_take]; omega
      unfold Hid at HTK HA
      rw [hcl] at HTK HA
      have HTK := Lib.hid HTK; have HA := Lib.hid HA
      obtain ⟨u1, u2, bx, zo⟩ := HA.out.ex
      have hgr := HA.out.grown
      obtain ⟨W4, hW4⟩ : ∃ W4, wr.alloc (.cells #[.int .i64 p.1, .int .i64 p.2.1, .int .i64 p.2.2] 51) = W4 := ⟨_, rfl⟩
      have hb4 : Below wr.heap.size wr W4 := by rw [← hW4]; exact (Below.refl _ _).alloc (Nat.le_refl _) _
      have x4 : Blk W4 wr.heap.size #[.int .i64 p.1, .int .i64 p.2.1, .int .i64 p.2.2] 51 := by rw [← hW4]; exact Blk.new _ _ _
      have bx4 := bx.keep hb4
      have zo4 := zo.below hb4
      have hg4 := grown_then_below hgr (hb4.mono hgr.size)
      have h49 : wr.heap.size ≠ W1.heap.size := by have := H7P.out; have := hgr.size; omega
      have H49 := Lib.hid h49
      obtain ⟨B4, hB4⟩ : ∃ B4, wr.heap.size = B4 := ⟨_, rfl⟩
      rw [hB4] at x4 h49 H49
      have e1 := x4.cell (i := 1) rfl; have e2 := x4.cell (i := 2) rfl
      have t2 := bx4.two
      have c0 := t2.1; have c1 := t2.2
      by_cases hz : k = 0
      · subst hz
        obtain ⟨x, y, w5, hrun, bx5, hq⟩ := ZQ.cls bx4 zo4 hg4 hll p.2.1 p.2.2 25
        rw [← HTK.out] at hq
        have HQ : Hid (ZQ wp W1.heap.size ((P.take (0 + 1)).map (·.2)) (List.replicate (0 + 1 - 1) 0) (w5.setCell ⟨W1.heap.size, 0, none⟩ (.slice x (cl.length + 1) y))) := hq
        have f0 := bx5.two.1
        have f1 := bx5.free 0
        have hz0 : ((0 : Nat) : Int) = 0 := rfl
        clear bx zo hgr hb4 bx4 zo4 hg4 t2 hq bx5 x4 hp hro cx0 cx1 cx2 hcl HTK HA hll
        go_wp2_with (first | (at_builtin; refine wpList_append_known _ rfl _ _ _ _ rfl _ _ rfl rfl _ _ hrun ?_; clear hrun) | fail)
        go_roundw
        case rel => exact ⟨0 + 1, by omega, by go_num, HQ⟩
        case measure => simp [intOf]; omega
      · have hkp : (0 : Int) < (k : Int) := by omega
        obtain ⟨x, y, w5, hrun, bx5, bx6, zo6, hg6, p6⟩ := ZQ.gap bx4 zo4 hg4 x4 (by simp; omega) 0 h49 26
        rw [List.length_replicate] at hrun bx6 zo6 hg6 p6
        rw [show List.replicate (k - 1) (0 : Int) ++ [0] = List.replicate k 0 by rw [← List.replicate_succ', show k - 1 + 1 = k by omega]] at zo6
        rw [show k - 1 + 1 = k by omega] at hrun bx6 zo6 hg6 p6
        have f0 := bx5.two.2
        have f1 := bx5.free 1
        obtain ⟨W6, hW6⟩ : ∃ W6, w5.setCell ⟨W1.heap.size, 1, none⟩ (.slice x k y) = W6 := ⟨_, rfl⟩
        rw [hW6] at bx6 zo6 hg6 p6
        obtain ⟨x', y', w7, hrun2, bx7, hq⟩ := ZQ.cls bx6 zo6 hg6 hll p.2.1 p.2.2 25
        rw [← HTK.out] at hq
        have HQ : Hid (ZQ wp W1.heap.size ((P.take (k + 1)).map (·.2)) (List.replicate (k + 1 - 1) 0) (w7.setCell ⟨W1.heap.size, 0, none⟩ (.slice x' (cl.length + 1) y'))) := hq
        have g0 := bx6.two.1
        have g1 := p6.cell (i := 1) rfl; have g2 := p6.cell (i := 2) rfl
        have k0 := bx7.two.1
        have k1 := bx7.free 0
        have hzk : ¬ k = 0 := hz
        clear bx zo hgr hb4 bx4 zo4 hg4 t2 hq bx5 bx6 zo6 hg6 p6 bx7 x4 hp hro cx0 cx1 cx2 hcl HTK HA hll
        go_wp2_with (first | (at_builtin; refine wpList_append_known _ rfl _ _ _ _ rfl _ _ rfl rfl _ _ hrun ?_; clear hrun) | (at_builtin; refine wpList_append_known _ rfl _ _ _ _ rfl _ _ rfl rfl _ _ hrun2 ?_; clear hrun2) | fail)
        go_roundw
        case rel => exact ⟨k + 1, by omega, by go_num, HQ⟩
        case measure => simp [intOf]; omega
    · obtain rfl : k = N := by omega
      have hA := HA.out
      rw [List.take_of_length_le (by rw [HN.out]; exact Nat.le_refl _)] at hA
      obtain ⟨cl, hcl⟩ : ∃ cl, P.map (·.2) = cl := ⟨_, rfl⟩
      rw [hcl] at hA
      unfold Hid at HCL
      rw [hcl] at HCL
      have HCL := Lib.hid HCL
      obtain ⟨u1, u2, bx, zo⟩ := hA.ex
      obtain ⟨M, hM⟩ : ∃ M, k - 1 = M := ⟨_, rfl⟩
      have hgm : gs.length = M := by rw [HGL.out, hM]
      rw [hM] at zo
      have hlow : Below w.heap.size w wr := HBP.out.grown hA.grown HBP.out.size (fun q e => by cases e; have := S1.out; omega)
      have r0 := H0.out.below intE_keep hlow
      have r1 := H1.out.below (Nat.le_refl _) hlow
      have HP2 := Lib.hid (points_any r0 r1 HC.out HV.out)
      unfold Hid at HP2
      rw [HPP.out, HN.out] at HP2
      have HP2 := Lib.hid HP2
      have HLOW := Lib.hid hlow
      have hws := hA.grown.size
      have HWS := Lib.hid hws
      have x6 := X6P.out.grown hA.grown (by simpa using H67.out.symm)
      have X6 := Lib.hid x6
      have BX := Lib.hid bx; have ZO := Lib.hid zo
      clear hA hcl bx zo hlow r0 r1 x6 hws HA
      go_wp2_with fail
      refine HP2.out.mono ?_
      rintro e wq ⟨vq, rfl, hoq, hbq⟩
      have bxq := BX.out.keep hbq
      have zoq := ZO.out.below hbq
      have x6q := X6.out.keep hbq
      obtain ⟨ad2, cap2, hu2⟩ := owns_len zoq.2
      subst hu2
      rw [List.length_replicate] at bxq zoq
      obtain ⟨adq, capq, hvq⟩ := owns_len hoq
      subst hvq
      have c1 := bxq.two.2
      have BXQ := Lib.hid bxq; have ZOQ := Lib.hid zoq; have X6Q := Lib.hid x6q; have HOQ := Lib.hid hoq
      have HLQ := Lib.hid (HLOW.out.trans (hbq.mono HLOW.out.size))
      have HKM := Lib.hid hM; have HGM := Lib.hid hgm
      have hM18 : M ≤ 18 := by omega
      clear bxq zoq x6q hoq hbq BX ZO X6 HP2 HLOW hM hgm
      go_wp2_with fail
      go_loopw [42] (fun i wx => ∃ j : Nat, j ≤ M ∧ i = .int .i64 j ∧ Hid (Blk wx W1.heap.size #[u1, .slice ad2 M cap2] 28) ∧ Hid (ZoneAt wx wp.heap.size u1 (.slice ad2 M cap2) cl (gapK gs j)) ∧ Hid (wq.grownBy wx (Value.slice ad2 M cap2).ownBlock)) (fun i _ => M - (intOf i).toNat)
      case atStart =>
        refine ⟨0, Nat.zero_le _, rfl, BXQ.out, ?_, ⟨rfl, rfl, rfl, Nat.le_refl _, fun _ _ _ => rfl⟩⟩
        have e : gapK gs 0 = List.replicate M 0 := by simp [gapK, HGM.out]
        rw [e]; exact ZOQ.out
      case round =>
        obtain ⟨j, hj, rfl, HX, HZ, HG⟩ := hrel
        by_cases hlt2 : j < M
        · have hjm : (j : Int) < (M : Int) := by omega
          have hj0 : (0 : Int) ≤ (j : Int) := by omega
          obtain ⟨J, hJ⟩ : ∃ J : Nat, j + 1 = J := ⟨_, rfl⟩
          have hJi : IntKind.i64.wrap ((j : Int) + 1) = (J : Int) := by rw [IntKind.wrap_i64]; omega
          have hJk : (J : Int) < (k : Int) := by have := HKM.out; omega
          have hjk : (j : Int) < (k : Int) := by have := HKM.out; omega
          have hJ0 : (0 : Int) ≤ (J : Int) := by omega
          have hor := owns_beside ZOQ.out.2 HOQ.out (by decide) HG.out
          obtain ⟨gq, q1, t1⟩ := owns_slice hor (by omega)
          cases t1
          have hzr := HZ.out.2
          rw [gapK_len gs j (by rw [HGM.out]; exact hj), HGM.out] at hzr
          obtain ⟨gu, q2, t2⟩ := owns_slice hzr (by omega)
          cases t2
          obtain ⟨p, hp⟩ : ∃ p, P[j]? = some p := ⟨_, List.getElem?_eq_getElem (by rw [HN.out]; omega)⟩
          obtain ⟨p', hp'⟩ : ∃ p, P[J]? = some p := ⟨_, List.getElem?_eq_getElem (by rw [HN.out]; omega)⟩
          have d0 : wr.cell? ⟨gq, j * 3, none⟩ = some (.int .i64 p.1) := by rw [hor.cellAt _ (by omega)]; exact (cellsT_get _ _ _ hp).1
          have d1 : wr.cell? ⟨gq, J * 3, none⟩ = some (.int .i64 p'.1) := by rw [hor.cellAt _ (by omega)]; exact (cellsT_get _ _ _ hp').1
          have hia := HIN.out p (List.mem_of_getElem? hp)
          have hib := HIN.out p' (List.mem_of_getElem? hp')
          have hgg : gs[j]? = some (gapZ p.1 p'.1 (kap r)) := by
            rw [← HGG.out]
            exact gapsZ_at _ _ _ _ _ (by rw [List.getElem?_map, hp]; rfl) (by rw [hJ, List.getElem?_map, hp']; rfl)
          have hset := owns_set hzr j (.int .i64 (gapZ p.1 p'.1 (kap r)))
          have hkp := kap_le r
          have HCAP : Hid (∀ W, Calls Tryz.prog 19 #[.int .i64 r] W fun e w' => e = .returned (.int .i64 (kap r)) ∧ W = w') := Lib.hid fun W => cap_any r W
          have HGAP : Hid (∀ W, Calls Tryz.prog 18 #[.int .i64 p.1, .int .i64 p'.1, .int .i64 (kap r)] W fun e w' => e = .returned (.int .i64 (gapZ p.1 p'.1 (kap r))) ∧ W = w') := Lib.hid fun W => gap_any p.1 p'.1 (kap r) W hia hib (by omega)
          obtain ⟨kr, hkr⟩ : ∃ kr : Nat, kap r = kr := ⟨_, rfl⟩
          obtain ⟨g, hgz⟩ : ∃ g, gapZ p.1 p'.1 (kap r) = g := ⟨_, rfl⟩
          unfold Hid at HCAP HGAP
          rw [hgz] at HGAP hset hgg
          rw [hkr] at HGAP HCAP
          have HCAP := Lib.hid HCAP; have HGAP := Lib.hid HGAP
          have hne : gu ≠ W1.heap.size := by have := HX.out.row_ne hzr (by decide); simpa [Value.ownBlock] using this
          rw [show (ints (gapK gs j)).set j (.int .i64 g) = ints (gapK gs (j + 1)) by rw [← gapK_set gs j g hgg]; simp [ints, List.map_set]] at hset
          have hcl := ownsRow_setCell_other HZ.out.1 (a := ⟨gu, j, none⟩) (by
            have := (owns_beside_ne HZ.out.2 HZ.out.1 (by decide))
            exact this) (.int .i64 g)
          have o0 : ∃ z, wr.cell? ⟨gu, j, none⟩ = some z := by
            rw [hzr.cellAt _ (by omega)]
            refine ⟨_, List.getElem?_eq_getElem ?_⟩
            rw [ints_len, gapK_len gs j (by rw [HGM.out]; exact hj), HGM.out]; exact hlt2
          obtain ⟨z0, o0⟩ := o0
          have o1 := owns_frozen hzr j
          have c1x := HX.out.two.2
          have HZN : Hid (ZoneAt ((wr.drew).setCell ⟨gu, j, none⟩ (.int .i64 g)) wp.heap.size u1 (.slice (some ⟨gu, 0, none⟩) M cap2) cl (gapK gs (j + 1))) := ⟨hcl, by rw [gapK_len gs (j + 1) (by rw [HGM.out]; exact hlt2), HGM.out]; exact hset⟩
          have HXN : Hid (Blk ((wr.drew).setCell ⟨gu, j, none⟩ (.int .i64 g)) W1.heap.size #[u1, .slice (some ⟨gu, 0, none⟩) M cap2] 28) := HX.out.other hne.symm _
          have HGN : Hid (wq.grownBy ((wr.drew).setCell ⟨gu, j, none⟩ (.int .i64 g)) (Value.slice (some ⟨gu, 0, none⟩) M cap2).ownBlock) := grown_put9 (W := wr.drew) (w3 := wq) (j := j) ⟨HG.out.os, HG.out.tape, HG.out.output, HG.out.size, HG.out.block⟩ _
          have hjM2 : j < M := hlt2
          have HJ2 := Lib.hid hJ
          clear hor hzr hp hp' hia hib hgg hset hkp hkr hgz hcl HX HZ HG hne hJ hlt2
          go_wp2_with fail
          refine wp_region_still_tail 18 hmx (by kernel_rfl) ?_
          simp only [List.take_succ_cons, List.take_zero, List.drop_succ_cons, List.drop_zero]
          repeat still_step
          still_call ((HCAP.out _).mono fun e w' h => ⟨h.1, h.2.symm⟩)
          repeat still_step
          still_call ((HGAP.out _).mono fun e w' h => ⟨h.1, h.2.symm⟩)
          repeat still_step
          refine wpStill_nil ?_
          change wpList _ _ _ _ _ wr.drew
          have o0' : wr.drew.cell? ⟨gu, j, none⟩ = some z0 := o0
          have o1' : wr.drew.frozen? ⟨gu, j, none⟩ = false := o1
          go_wp2_with fail
          go_roundw
          case rel => exact ⟨j + 1, by omega, int_eq (by have := HJ2.out; omega), HXN, HZN, HGN⟩
          case measure => have := HJ2.out; simp [intOf]; omega
        · obtain rfl : j = M := by omega
          have hz := HZ.out
          rw [show gapK gs j = gs by rw [← HGM.out]; exact gapK_all gs, HGS.out, HCL.out] at hz
          have x6 := X6Q.out.grown HG.out (X6Q.out.row_ne ZOQ.out.2 (by decide))
          have t2 := HX.out.two
          have c0 := t2.1; have c1' := t2.2
          have e0 := x6.two.1; have e1 := x6.two.2; have f0 := x6.free 0; have f1 := x6.free 1
          have HRES : Hid (ZoneAt ((wr.setCell ⟨w.heap.size, 0, none⟩ u1).setCell ⟨w.heap.size, 1, none⟩ (.slice ad2 j cap2)) w.heap.size u1 (.slice ad2 j cap2) (ofZ vals consts r).1 (ofZ vals consts r).2) := by
            have hz2 := hz.mono (show w.heap.size ≤ wp.heap.size by have := S1.out; have := H7P.out; omega)
            exact ⟨ownsRow_setCell_other (ownsRow_setCell_other hz2.1 (x6.row_ne hz2.1 (by decide)) _) (x6.row_ne hz2.1 (by decide)) _, ownsRow_setCell_other (ownsRow_setCell_other hz2.2 (x6.row_ne hz2.2 (by decide)) _) (x6.row_ne hz2.2 (by decide)) _⟩
          have HBF : Hid (Below w.heap.size w ((wr.setCell ⟨w.heap.size, 0, none⟩ u1).setCell ⟨w.heap.size, 1, none⟩ (.slice ad2 j cap2))) :=
            ((HLQ.out.grown HG.out HLQ.out.size (fun q e => by have := (ZOQ.out.2.lt q e).1; have := H7P.out; have := S1.out; omega)).setCell (p := ⟨w.heap.size, 0, none⟩) (Nat.le_refl _) _).setCell (p := ⟨w.heap.size, 1, none⟩) (Nat.le_refl _) _
          have p2 := x6.put2 u1 (.slice ad2 j cap2)
          have g0 := p2.two.1; have g1 := p2.two.2
          obtain ⟨p1, hu1⟩ : ∃ p1, u1 = p1 := ⟨_, rfl⟩
          obtain ⟨ad1, cap1, hu⟩ := owns_len hz.1
          clear hz x6 t2 p2 hu1 HX HZ HG
          obtain ⟨N1, hN1⟩ : ∃ N1, (ofZ vals consts r).1.length = N1 := ⟨_, rfl⟩
          rw [hN1] at hu
          clear hN1
          subst hu
          go_wp2_with fail
          refine bodyPost_ret (v := .agg #[.slice ad1 N1 cap1, .slice ad2 j cap2]) (by simp [results, Tryz.results6, go_sem, g0, g1]) rfl ?_
          exact ⟨_, _, rfl, HRES.out, HBF.out⟩

end Go.Proofs.YtkkoooagamadjaaGreatDoor

namespace Go.Proofs.YtkkoooagamadjaaGreatDoor
open Go.RowKit Go.Shelf

theorem ZoneAt.first {W : World} {base : Nat} {c1 c2 : Value} {cl : List (Int × Int)} {gl : List Int} (h : ZoneAt W base c1 c2 cl gl) {k : Nat} {x y : Int} (hk : cl[k]? = some (x, y)) :
    ∃ g cap, c1 = .slice (some ⟨g, 0, none⟩) cl.length cap ∧ g < W.heap.size ∧ W.cell? ⟨g, k * 2, none⟩ = some (.int .i64 x) := by
  have hkl := (List.getElem?_eq_some_iff.1 hk).1
  obtain ⟨g, cap, rfl, _, hg⟩ := owns_shape h.1 (by omega)
  exact ⟨g, cap, rfl, hg, by rw [h.1.cellAt _ (by omega)]; exact (cellsP_get _ _ _ hk).1⟩

end Go.Proofs.YtkkoooagamadjaaGreatDoor

namespace Go.Proofs.YtkkoooagamadjaaGreatDoor
open Go.RowKit Go.Shelf

def sitsZ (cl : List (Int × Int)) (a : Int) : Nat := (cl.filter fun c => hasB c.1 a).length
theorem sitsZ_take (cl : List (Int × Int)) (a : Int) (k : Nat) (x y : Int) (h : cl[k]? = some (x, y)) : sitsZ (cl.take (k + 1)) a = sitsZ (cl.take k) a + (if hasB x a = true then 1 else 0) := by
  obtain ⟨h1, h2⟩ := List.getElem?_eq_some_iff.1 h
  unfold sitsZ
  rw [List.take_succ_eq_append_getElem h1, List.filter_append, List.length_append, h2]
  simp only [List.filter_cons, List.filter_nil]
  split <;> simp
theorem sitsZ_le (cl : List (Int × Int)) (a : Int) : sitsZ cl a ≤ cl.length := List.length_filter_le _ _

end Go.Proofs.YtkkoooagamadjaaGreatDoor

namespace Go.Proofs.YtkkoooagamadjaaGreatDoor
open Go.RowKit Go.Shelf

def sitsB (cl : List (Int × Int)) (n : Int) (k : Nat) : Bool := (List.range k).all fun a => decide (sitsZ cl a = if (a : Int) < n then 1 else 0)
theorem sitsB_succ (cl : List (Int × Int)) (n : Int) (k : Nat) : sitsB cl n (k + 1) = (sitsB cl n k && decide (sitsZ cl k = if (k : Int) < n then 1 else 0)) := by simp [sitsB, List.range_succ, List.all_append]
def stepC (x y : Int) (q : Nat) : Bool := decide (0 ≤ x) && decide (x < 2147483648) && (decide (0 < x) || decide (0 ≤ y)) && (decide (y = -1) || decide (y = (q : Int)))
theorem stepC_is (x y : Int) (q : Nat) : stepC x y q = decide (0 ≤ x ∧ x < 2147483648 ∧ (0 < x ∨ 0 ≤ y) ∧ (y = -1 ∨ y = (q : Int))) := by
  rw [Bool.eq_iff_iff]; simp [stepC, and_assoc]
def clsF (cl : List (Int × Int)) : Bool × Nat := cl.foldl (fun s c => (s.1 && stepC c.1 c.2 s.2, if c.2 = -1 then s.2 else s.2 + 1)) (true, 0)
theorem clsF_take (cl : List (Int × Int)) (k : Nat) (x y : Int) (h : cl[k]? = some (x, y)) : clsF (cl.take (k + 1)) = ((clsF (cl.take k)).1 && stepC x y (clsF (cl.take k)).2, if y = -1 then (clsF (cl.take k)).2 else (clsF (cl.take k)).2 + 1) := by
  obtain ⟨h1, h2⟩ := List.getElem?_eq_some_iff.1 h
  unfold clsF
  rw [List.take_succ_eq_append_getElem h1, List.foldl_append, h2]
  rfl
theorem clsF_le (cl : List (Int × Int)) (k : Nat) : (clsF (cl.take k)).2 ≤ k := by
  induction k with
  | zero => simp [clsF]
  | succ k ih =>
    by_cases hk : k < cl.length
    · rw [clsF_take cl k (cl[k]).1 (cl[k]).2 (List.getElem?_eq_getElem hk)]
      dsimp only
      split <;> omega
    · rw [List.take_of_length_le (by omega)]
      rw [List.take_of_length_le (by omega)] at ih
      omega
def classesZ (cl : List (Int × Int)) (n m : Int) : Bool := (sitsB cl n 31 && (clsF cl).1) && decide (((clsF cl).2 : Int) = m)

end Go.Proofs.YtkkoooagamadjaaGreatDoor

namespace Go.Proofs.YtkkoooagamadjaaGreatDoor
open Go.RowKit Go.Shelf

/-- so many gaps from a place on -/
def cutP (gl : List Int) (p k : Nat) : List Int := (gl.drop p).take k
theorem cutP_succ (gl : List Int) (p k : Nat) (g : Int) (h : gl[p + k]? = some g) : cutP gl p (k + 1) = cutP gl p k ++ [g] := by
  obtain ⟨h1, h2⟩ := List.getElem?_eq_some_iff.1 h
  unfold cutP
  have hl : k < (gl.drop p).length := by rw [List.length_drop]; omega
  rw [List.take_succ_eq_append_getElem hl, List.getElem_drop, h2]
theorem cutP_sum (gl : List Int) (p k : Nat) (hg : ∀ g ∈ gl, 0 ≤ g ∧ g ≤ 1000) : 0 ≤ (cutP gl p k).sum ∧ (cutP gl p k).sum ≤ 1000 * k := by
  have key : ∀ (l : List Int), (∀ g ∈ l, 0 ≤ g ∧ g ≤ 1000) → 0 ≤ l.sum ∧ l.sum ≤ 1000 * l.length := by
    intro l
    induction l with
    | nil => intro _; simp
    | cons a t ih =>
      intro h
      have h1 := h a (by simp)
      have h2 := ih (fun g hg => h g (List.mem_cons_of_mem _ hg))
      rw [List.sum_cons, List.length_cons]
      omega
  have h := key (cutP gl p k) (fun g hg' => hg g (List.mem_of_mem_drop (List.mem_of_mem_take hg')))
  have hl : (cutP gl p k).length ≤ k := List.length_take_le _ _
  omega
def sumP (gl : List Int) (p q : Nat) : Int := ((q : Int) - p - 1) + (cutP gl p (q - p)).sum
def fitsB (gl : List Int) (p q : Nat) (cap a b : Int) : Bool :=
  (gapZ a b (sumP gl p q + 1) == sumP gl p q) || ((cutP gl p (q - p)).any (fun g => g == cap) && decide (sumP gl p q < gapZ a b (sumP gl p q + 1)))

end Go.Proofs.YtkkoooagamadjaaGreatDoor
