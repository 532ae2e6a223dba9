/- rights: Free (printed by gen_ri2.py). rights: apart, Enabled (printed by gen_ri3.py). rights: pairs, Any. -/
import Derived.Test.YtadjnfpomjopkaaGreatSm12
import Derived.Shelf.RegionOpen
import Derived.LoopIn
import Derived.RangeFuncWrites
import Derived.RangeFuncNested
import Derived.RangeFuncCalls
import Derived.RangeFuncLeaves

namespace Go.Proofs.YtadjnfpomjopkaaGreat
open Go.RowKit

theorem complQ {w : World} {q : Mem} {M : Mdl} {r : Stm} {s : Sta} (hm : MdQ w q M) (hs : StQ w r s) : Calls Tryz.prog 106 #[.agg (mdC q M), .agg (stC r s)] w (Ret w (.bool (complS M s))) := compl_any hm hs
theorem rofQ {w : World} {q : Mem} {M : Mdl} (hm : MdQ w q M) (a b : Int) : Calls Tryz.prog 107 #[.agg (mdC q M), .int .i64 a, .int .i64 b] w (Ret w (.bool (ofR M a b))) := rof_R hm a b
set_option maxRecDepth 100000 in
set_option maxHeartbeats 4000000 in
theorem freeQ {w : World} {q : Mem} {M : Mdl} {r : Stm} {s : Sta} (hm : MdQ w q M) (hs : StQ w r s) (e u : Int) :
    Calls Tryz.prog 93 #[.agg (mdC q M), .agg (stC r s), .int .i64 e, .int .i64 u] w (Ret w (.bool (freeS M s e u))) := by
  obtain ⟨W1, W, h1, h2, HB, HM, HS, HF⟩ := boxMS hm hs
  have HCO : Hid (∀ V, Below W.heap.size W V → Calls Tryz.prog 106 #[.agg (mdC q M), .agg (stC r s)] V (Ret V (.bool (complS M s)))) := fun V hV => complQ (HM.out.below hV) (HS.out.below hV)
  have HOF : Hid (∀ V a, Below W.heap.size W V → Calls Tryz.prog 107 #[.agg (mdC q M), .int .i64 a, .int .i64 u] V (Ret V (.bool (ofR M a u)))) := fun V a hV => rofQ (HM.out.below hV) a u
  have HAT : Hid (∀ V, Below W.heap.size W V → Calls Tryz.prog 108 #[.slice r.a4 s.cnt.length r.k4, .int .i64 e] V fun o w' => o = .returned (.int .i64 (atZ s.cnt e)) ∧ w' = V) := fun V hV => ratz_any (HS.out.below hV).cnt e
  have HEV := Lib.hid HM.out.events
  have hc5 := HM.out.events.max
  unfold mdC at h1 HCO HOF
  unfold stC at h2 HCO
  unfold mdC stC
  clear hm hs
  obtain ⟨⟨c0, c1, c2, c3, c4, c5, c6, c7, c8, c9⟩, d0, d1, d2, d3, d4⟩ := HF.out _ (Below.refl _ _)
  rcases (show e < 0 ∨ (M.events.length : Int) ≤ e ∨ (0 ≤ e ∧ e < (M.events.length : Int)) by omega) with p | p | p
  · have HT : Hid (freeS M s e u = false) := by unfold Hid freeS; rw [inM_no (by omega)]; rfl
    rw [HT.out]
    clear HT
    go_enter Tryz.func93, Tryz.ntmps93
    go_wp2
    go_ret
    exact ⟨rfl, HB.out⟩
  · have HT : Hid (freeS M s e u = false) := by unfold Hid freeS; rw [inM_no (by omega)]; rfl
    rw [HT.out]
    have p1 : ¬ e < 0 := by omega
    clear HT
    go_enter Tryz.func93, Tryz.ntmps93
    go_wp2
    go_ret
    exact ⟨rfl, HB.out⟩
  obtain ⟨j, rfl⟩ : ∃ j : Nat, e = (j : Int) := ⟨e.toNat, by omega⟩
  have hjl : j < M.events.length := by omega
  have HIN : Hid (inM (j : Int) M.events.length = true) := inM_iff.2 p
  have p0 := p.1
  have p1 := p.2
  have p2 : ¬ (j : Int) < 0 := by omega
  have p3 : ¬ (M.events.length : Int) ≤ (j : Int) := by omega
  clear p
  obtain ⟨cp, hcp⟩ : ∃ b, complS M s = b := ⟨_, rfl⟩
  rw [hcp] at HCO
  have HCP := Lib.hid hcp
  clear hcp
  cases cp
  · go_enter Tryz.func93, Tryz.ntmps93
    go_wp2_with fail
    refine (HCO.out _ (Below.refl _ _)).mono ?_
    rintro e w3 ⟨rfl, hb4⟩
    obtain ⟨x, b, off, ai, ki, hx, ha, -, ⟨g0, g1, g2, g3, g4⟩, W3, h3, hb3, hB3⟩ := eventBox (HM.out.below hb4).events hjl
    have hT : freeS M s (j : Int) u = freeV M s x (j : Int) u := by unfold freeS; rw [HCP.out, HIN.out, Int.toNat_natCast, evG_of hx]; rfl
    have HBW := Lib.hid (hb4.trans (hb3.mono hb4.size))
    have HSF : Hid (∀ V, Below W3.heap.size W3 V → (MdB V w.heap.size q M ∧ StB V W1.heap.size r s) ∧ V.cell? ⟨w3.heap.size, 1, none⟩ = some (.int .i64 x.role) ∧ V.cell? ⟨w3.heap.size, 2, none⟩ = some (.int .i64 x.stage) ∧ V.cell? ⟨w3.heap.size, 4, none⟩ = some (.int .i64 x.times)) := fun V hV => ⟨HF.out V (HBW.out.trans (hV.mono HBW.out.size)), (hB3.keep hV).cell rfl, (hB3.keep hV).cell rfl, (hB3.keep hV).cell rfl⟩
    obtain ⟨⟨c0, c1, c2, c3, c4, c5, c6, c7, c8, c9⟩, d0, d1, d2, d3, d4⟩ := HF.out _ hb4
    obtain ⟨⟨⟨f0, f1, f2, f3, f4, f5, f6, f7, f8, f9⟩, y0, y1, y2, y3, y4⟩, y5, y6, y7⟩ := HSF.out _ (Below.refl _ _)
    have HHA : Hid (∀ V, Calls Tryz.prog 96 #[.int .i64 s.opn, .int .i64 x.stage] V fun o w' => o = .returned (.bool (hasB s.opn x.stage)) ∧ V = w') := fun V => has_any _ _ V
    have HO2 := Lib.hid (fun V hV => HOF.out V x.role (HBW.out.trans (Below.mono hV HBW.out.size)))
    rw [ha] at HO2
    have HA2 := Lib.hid (fun V hV => HAT.out V (HBW.out.trans (Below.mono hV HBW.out.size)))
    have HSZ := Lib.hid HBW.out.size
    rcases (show ¬ x.stage < (M.stages.length : Int) ∨ (x.stage < (M.stages.length : Int) ∧ (hasB s.opn x.stage = false ∨ (hasB s.opn x.stage = true ∧ (ofR M x.role u = false ∨ (ofR M x.role u = true ∧ (x.times ≤ 0 ∨ ¬ x.times ≤ 0)))))) by
        cases hasB s.opn x.stage <;> cases ofR M x.role u <;> simp <;> omega) with k1 | ⟨k1, k2 | ⟨k2, k3 | ⟨k3, k4 | k4⟩⟩⟩
    · have HT : Hid (freeS M s (j : Int) u = false) := by unfold Hid; rw [hT]; unfold freeV; rw [decide_eq_false k1]; rfl
      have hd1 : decide (x.stage < (M.stages.length : Int)) = false := decide_eq_false k1
      clear k1 hT hx hb4 hb3 hB3 HCO HOF HAT HF
      go_wp2_with fail
      clear c0 c1 c2 c3 c4 c5 c6 c7 c8 c9 d0 d1 d2 d3 d4 f0 f1 f2 f3 f4 f5 f6 f7 f8 f9 y0 y1 y2 y3 y4 y5 y6 y7
      have hbz : Below W3.heap.size W3 W3.drew := (Below.refl _ _).drew
      refine startH (S := fun V => (MdB V w.heap.size q M ∧ StB V W1.heap.size r s) ∧ V.cell? ⟨w3.heap.size, 1, none⟩ = some (.int .i64 x.role) ∧ V.cell? ⟨w3.heap.size, 2, none⟩ = some (.int .i64 x.stage) ∧ V.cell? ⟨w3.heap.size, 4, none⟩ = some (.int .i64 x.times)) (by kernel_rfl) (HSF.out _ hbz) (fun hHeld => ?_)
      refine takesH [0, 1, 2, 3, 4, 5, 6, 7, 8, 9, 10, 11, 12, 13, 14, 15, 16, 17, 18, 19, 20, 21, 22, 23, 24, 25, 26, 27, 28, 29, 30, 31, 32, 33, 34] (by kernel_rfl) (by repeat (first | exact PutFree.body | apply PutFree.then | apply PutFree.inBlock)) (by kernel_rfl) (by kernel_rfl) (by assumption) ?_
      repeat (first
        | (refine TakeSeq.cons (v := ?_) rfl (by rfl) ?_ ?_
           rotate_left
           · ((intro w hSw; unfold MdB StB at hSw; go_simp) <;> (try with_reducible rfl))
           (try rw [hd1])
           (try go_simp))
        | (refine TakeSeq.skip rfl (by rfl) ?_; (try go_simp)))
      refine TakeSeq.nil ?_
      refine doneH (by kernel_rfl) ?_
      go_wp2
      go_ret
      exact ⟨ret_bool HT.out.symm, HB.out.trans ((HBW.out.trans (hbz.mono HSZ.out)).mono HB.out.size)⟩
    · have HT : Hid (freeS M s (j : Int) u = false) := by unfold Hid; rw [hT]; unfold freeV; rw [decide_eq_true k1, k2]; rfl
      have hd1 : decide (x.stage < (M.stages.length : Int)) = true := decide_eq_true k1
      rw [k2] at HHA
      clear k1 k2 hT hx hb4 hb3 hB3 HCO HOF HAT HF
      go_wp2_with fail
      clear c0 c1 c2 c3 c4 c5 c6 c7 c8 c9 d0 d1 d2 d3 d4 f0 f1 f2 f3 f4 f5 f6 f7 f8 f9 y0 y1 y2 y3 y4 y5 y6 y7
      have hbz : Below W3.heap.size W3 W3.drew := (Below.refl _ _).drew
      refine startH (S := fun V => (MdB V w.heap.size q M ∧ StB V W1.heap.size r s) ∧ V.cell? ⟨w3.heap.size, 1, none⟩ = some (.int .i64 x.role) ∧ V.cell? ⟨w3.heap.size, 2, none⟩ = some (.int .i64 x.stage) ∧ V.cell? ⟨w3.heap.size, 4, none⟩ = some (.int .i64 x.times)) (by kernel_rfl) (HSF.out _ hbz) (fun hHeld => ?_)
      refine takesH [0, 1, 2, 3, 4, 5, 6, 7, 8, 9, 10] (by kernel_rfl) (by repeat (first | exact PutFree.body | apply PutFree.then | apply PutFree.inBlock)) (by kernel_rfl) (by kernel_rfl) (by assumption) ?_
      repeat (first
        | (refine TakeSeq.cons (v := ?_) rfl (by rfl) ?_ ?_
           rotate_left
           · ((intro w hSw; unfold MdB StB at hSw; go_simp) <;> (try with_reducible rfl))
           (try rw [hd1])
           (try go_simp))
        | (refine TakeSeq.skip rfl (by rfl) ?_; (try go_simp)))
      refine TakeSeq.nil ?_
      refine callH 11 (by kernel_rfl) (by kernel_rfl) rfl (by rfl) ?_
      intro K hK
      go_simp
      go_at_call 96
      with_reducible refine (HHA.out _).mono ?_
      rintro e w5 ⟨rfl, rfl⟩
      refine hK.out _ _ (HSF.out _ hbz) (fun hHeld => ?_)
      clear hK K
      (try go_simp)
      refine takesH [12, 13, 14, 15, 16, 17, 18, 19, 20, 21, 22, 23, 24, 25, 26, 27, 28, 29, 30, 31, 32, 33, 34] (by kernel_rfl) (by repeat (first | exact PutFree.body | apply PutFree.then | apply PutFree.inBlock)) (by kernel_rfl) (by kernel_rfl) (by assumption) ?_
      repeat (first
        | (refine TakeSeq.cons (v := ?_) rfl (by rfl) ?_ ?_
           rotate_left
           · ((intro w hSw; unfold MdB StB at hSw; go_simp) <;> (try with_reducible rfl))
           (try rw [hd1])
           (try go_simp))
        | (refine TakeSeq.skip rfl (by rfl) ?_; (try go_simp)))
      refine TakeSeq.nil ?_
      refine doneH (by kernel_rfl) ?_
      go_wp2
      go_ret
      exact ⟨ret_bool HT.out.symm, HB.out.trans ((HBW.out.trans (hbz.mono HSZ.out)).mono HB.out.size)⟩
    · have HT : Hid (freeS M s (j : Int) u = false) := by unfold Hid; rw [hT]; unfold freeV; rw [decide_eq_true k1, k2, k3]; rfl
      have hd1 : decide (x.stage < (M.stages.length : Int)) = true := decide_eq_true k1
      rw [k2] at HHA
      rw [k3] at HO2
      clear k1 k2 k3 hT hx hb4 hb3 hB3 HCO HOF HAT HF
      go_wp2_with fail
      clear c0 c1 c2 c3 c4 c5 c6 c7 c8 c9 d0 d1 d2 d3 d4 f0 f1 f2 f3 f4 f5 f6 f7 f8 f9 y0 y1 y2 y3 y4 y5 y6 y7
      have hbz : Below W3.heap.size W3 W3.drew := (Below.refl _ _).drew
      refine startH (S := fun V => (MdB V w.heap.size q M ∧ StB V W1.heap.size r s) ∧ V.cell? ⟨w3.heap.size, 1, none⟩ = some (.int .i64 x.role) ∧ V.cell? ⟨w3.heap.size, 2, none⟩ = some (.int .i64 x.stage) ∧ V.cell? ⟨w3.heap.size, 4, none⟩ = some (.int .i64 x.times)) (by kernel_rfl) (HSF.out _ hbz) (fun hHeld => ?_)
      refine takesH [0, 1, 2, 3, 4, 5, 6, 7, 8, 9, 10] (by kernel_rfl) (by repeat (first | exact PutFree.body | apply PutFree.then | apply PutFree.inBlock)) (by kernel_rfl) (by kernel_rfl) (by assumption) ?_
      repeat (first
        | (refine TakeSeq.cons (v := ?_) rfl (by rfl) ?_ ?_
           rotate_left
           · ((intro w hSw; unfold MdB StB at hSw; go_simp) <;> (try with_reducible rfl))
           (try rw [hd1])
           (try go_simp))
        | (refine TakeSeq.skip rfl (by rfl) ?_; (try go_simp)))
      refine TakeSeq.nil ?_
      refine callH 11 (by kernel_rfl) (by kernel_rfl) rfl (by rfl) ?_
      intro K hK
      go_simp
      go_at_call 96
      with_reducible refine (HHA.out _).mono ?_
      rintro e w5 ⟨rfl, rfl⟩
      refine hK.out _ _ (HSF.out _ hbz) (fun hHeld => ?_)
      clear hK K
      (try go_simp)
      refine takesH [12, 13, 14, 15, 16, 17] (by kernel_rfl) (by repeat (first | exact PutFree.body | apply PutFree.then | apply PutFree.inBlock)) (by kernel_rfl) (by kernel_rfl) (by assumption) ?_
      repeat (first
        | (refine TakeSeq.cons (v := ?_) rfl (by rfl) ?_ ?_
           rotate_left
           · ((intro w hSw; unfold MdB StB at hSw; go_simp) <;> (try with_reducible rfl))
           (try rw [hd1])
           (try go_simp))
        | (refine TakeSeq.skip rfl (by rfl) ?_; (try go_simp)))
      refine TakeSeq.nil ?_
      refine callH 18 (by kernel_rfl) (by kernel_rfl) rfl (by rfl) ?_
      intro K hK
      go_simp
      go_at_call 107
      with_reducible refine (HO2.out _ hbz).mono ?_
      rintro e w5 ⟨rfl, hb5⟩
      replace hbz := hbz.trans (hb5.mono hbz.size)
      clear hb5
      refine hK.out _ _ (HSF.out _ hbz) (fun hHeld => ?_)
      clear hK K
      (try go_simp)
      refine takesH [19, 20, 21, 22, 23, 24, 25, 26, 27, 28, 29, 30, 31, 32, 33, 34] (by kernel_rfl) (by repeat (first | exact PutFree.body | apply PutFree.then | apply PutFree.inBlock)) (by kernel_rfl) (by kernel_rfl) (by assumption) ?_
      repeat (first
        | (refine TakeSeq.cons (v := ?_) rfl (by rfl) ?_ ?_
           rotate_left
           · ((intro w hSw; unfold MdB StB at hSw; go_simp) <;> (try with_reducible rfl))
           (try rw [hd1])
           (try go_simp))
        | (refine TakeSeq.skip rfl (by rfl) ?_; (try go_simp)))
      refine TakeSeq.nil ?_
      refine doneH (by kernel_rfl) ?_
      go_wp2
      go_ret
      exact ⟨ret_bool HT.out.symm, HB.out.trans ((HBW.out.trans (hbz.mono HSZ.out)).mono HB.out.size)⟩
    · have HT : Hid (freeS M s (j : Int) u = true) := by unfold Hid; rw [hT]; unfold freeV; rw [decide_eq_true k1, k2, k3, decide_eq_true k4]; rfl
      have hd1 : decide (x.stage < (M.stages.length : Int)) = true := decide_eq_true k1
      have hd2 : decide (x.times ≤ 0) = true := decide_eq_true k4
      rw [k2] at HHA
      rw [k3] at HO2
      clear k1 k2 k3 k4 hT hx hb4 hb3 hB3 HCO HOF HAT HF
      go_wp2_with fail
      clear c0 c1 c2 c3 c4 c5 c6 c7 c8 c9 d0 d1 d2 d3 d4 f0 f1 f2 f3 f4 f5 f6 f7 f8 f9 y0 y1 y2 y3 y4 y5 y6 y7
      have hbz : Below W3.heap.size W3 W3.drew := (Below.refl _ _).drew
      refine startH (S := fun V => (MdB V w.heap.size q M ∧ StB V W1.heap.size r s) ∧ V.cell? ⟨w3.heap.size, 1, none⟩ = some (.int .i64 x.role) ∧ V.cell? ⟨w3.heap.size, 2, none⟩ = some (.int .i64 x.stage) ∧ V.cell? ⟨w3.heap.size, 4, none⟩ = some (.int .i64 x.times)) (by kernel_rfl) (HSF.out _ hbz) (fun hHeld => ?_)
      refine takesH [0, 1, 2, 3, 4, 5, 6, 7, 8, 9, 10] (by kernel_rfl) (by repeat (first | exact PutFree.body | apply PutFree.then | apply PutFree.inBlock)) (by kernel_rfl) (by kernel_rfl) (by assumption) ?_
      repeat (first
        | (refine TakeSeq.cons (v := ?_) rfl (by rfl) ?_ ?_
           rotate_left
           · ((intro w hSw; unfold MdB StB at hSw; go_simp) <;> (try with_reducible rfl))
           (try rw [hd1])
           (try rw [hd2])
           (try go_simp))
        | (refine TakeSeq.skip rfl (by rfl) ?_; (try go_simp)))
      refine TakeSeq.nil ?_
      refine callH 11 (by kernel_rfl) (by kernel_rfl) rfl (by rfl) ?_
      intro K hK
      go_simp
      go_at_call 96
      with_reducible refine (HHA.out _).mono ?_
      rintro e w5 ⟨rfl, rfl⟩
      refine hK.out _ _ (HSF.out _ hbz) (fun hHeld => ?_)
      clear hK K
      (try go_simp)
      refine takesH [12, 13, 14, 15, 16, 17] (by kernel_rfl) (by repeat (first | exact PutFree.body | apply PutFree.then | apply PutFree.inBlock)) (by kernel_rfl) (by kernel_rfl) (by assumption) ?_
      repeat (first
        | (refine TakeSeq.cons (v := ?_) rfl (by rfl) ?_ ?_
           rotate_left
           · ((intro w hSw; unfold MdB StB at hSw; go_simp) <;> (try with_reducible rfl))
           (try rw [hd1])
           (try rw [hd2])
           (try go_simp))
        | (refine TakeSeq.skip rfl (by rfl) ?_; (try go_simp)))
      refine TakeSeq.nil ?_
      refine callH 18 (by kernel_rfl) (by kernel_rfl) rfl (by rfl) ?_
      intro K hK
      go_simp
      go_at_call 107
      with_reducible refine (HO2.out _ hbz).mono ?_
      rintro e w5 ⟨rfl, hb5⟩
      replace hbz := hbz.trans (hb5.mono hbz.size)
      clear hb5
      refine hK.out _ _ (HSF.out _ hbz) (fun hHeld => ?_)
      clear hK K
      (try go_simp)
      refine takesH [19, 20, 21, 22, 23, 24, 25, 26, 27, 28, 29, 30, 31, 32, 33, 34] (by kernel_rfl) (by repeat (first | exact PutFree.body | apply PutFree.then | apply PutFree.inBlock)) (by kernel_rfl) (by kernel_rfl) (by assumption) ?_
      repeat (first
        | (refine TakeSeq.cons (v := ?_) rfl (by rfl) ?_ ?_
           rotate_left
           · ((intro w hSw; unfold MdB StB at hSw; go_simp) <;> (try with_reducible rfl))
           (try rw [hd1])
           (try rw [hd2])
           (try go_simp))
        | (refine TakeSeq.skip rfl (by rfl) ?_; (try go_simp)))
      refine TakeSeq.nil ?_
      refine doneH (by kernel_rfl) ?_
      go_wp2
      go_ret
      exact ⟨ret_bool HT.out.symm, HB.out.trans ((HBW.out.trans (hbz.mono HSZ.out)).mono HB.out.size)⟩
    · have HT : Hid (freeS M s (j : Int) u = decide (atZ s.cnt (j : Int) < x.times)) := by unfold Hid; rw [hT]; unfold freeV; rw [decide_eq_true k1, k2, k3, decide_eq_false k4]; rfl
      have hd1 : decide (x.stage < (M.stages.length : Int)) = true := decide_eq_true k1
      have hd2 : decide (x.times ≤ 0) = false := decide_eq_false k4
      rw [k2] at HHA
      rw [k3] at HO2
      clear k1 k2 k3 k4 hT hx hb4 hb3 hB3 HCO HOF HAT HF
      go_wp2_with fail
      clear c0 c1 c2 c3 c4 c5 c6 c7 c8 c9 d0 d1 d2 d3 d4 f0 f1 f2 f3 f4 f5 f6 f7 f8 f9 y0 y1 y2 y3 y4 y5 y6 y7
      have hbz : Below W3.heap.size W3 W3.drew := (Below.refl _ _).drew
      refine startH (S := fun V => (MdB V w.heap.size q M ∧ StB V W1.heap.size r s) ∧ V.cell? ⟨w3.heap.size, 1, none⟩ = some (.int .i64 x.role) ∧ V.cell? ⟨w3.heap.size, 2, none⟩ = some (.int .i64 x.stage) ∧ V.cell? ⟨w3.heap.size, 4, none⟩ = some (.int .i64 x.times)) (by kernel_rfl) (HSF.out _ hbz) (fun hHeld => ?_)
      refine takesH [0, 1, 2, 3, 4, 5, 6, 7, 8, 9, 10] (by kernel_rfl) (by repeat (first | exact PutFree.body | apply PutFree.then | apply PutFree.inBlock)) (by kernel_rfl) (by kernel_rfl) (by assumption) ?_
      repeat (first
        | (refine TakeSeq.cons (v := ?_) rfl (by rfl) ?_ ?_
           rotate_left
           · ((intro w hSw; unfold MdB StB at hSw; go_simp) <;> (try with_reducible rfl))
           (try rw [hd1])
           (try rw [hd2])
           (try go_simp))
        | (refine TakeSeq.skip rfl (by rfl) ?_; (try go_simp)))
      refine TakeSeq.nil ?_
      refine callH 11 (by kernel_rfl) (by kernel_rfl) rfl (by rfl) ?_
      intro K hK
      go_simp
      go_at_call 96
      with_reducible refine (HHA.out _).mono ?_
      rintro e w5 ⟨rfl, rfl⟩
      refine hK.out _ _ (HSF.out _ hbz) (fun hHeld => ?_)
      clear hK K
      (try go_simp)
      refine takesH [12, 13, 14, 15, 16, 17] (by kernel_rfl) (by repeat (first | exact PutFree.body | apply PutFree.then | apply PutFree.inBlock)) (by kernel_rfl) (by kernel_rfl) (by assumption) ?_
      repeat (first
        | (refine TakeSeq.cons (v := ?_) rfl (by rfl) ?_ ?_
           rotate_left
           · ((intro w hSw; unfold MdB StB at hSw; go_simp) <;> (try with_reducible rfl))
           (try rw [hd1])
           (try rw [hd2])
           (try go_simp))
        | (refine TakeSeq.skip rfl (by rfl) ?_; (try go_simp)))
      refine TakeSeq.nil ?_
      refine callH 18 (by kernel_rfl) (by kernel_rfl) rfl (by rfl) ?_
      intro K hK
      go_simp
      go_at_call 107
      with_reducible refine (HO2.out _ hbz).mono ?_
      rintro e w5 ⟨rfl, hb5⟩
      replace hbz := hbz.trans (hb5.mono hbz.size)
      clear hb5
      refine hK.out _ _ (HSF.out _ hbz) (fun hHeld => ?_)
      clear hK K
      (try go_simp)
      refine takesH [19, 20, 21, 22, 23, 24, 25, 26, 27, 29, 30] (by kernel_rfl) (by repeat (first | exact PutFree.body | apply PutFree.then | apply PutFree.inBlock)) (by kernel_rfl) (by kernel_rfl) (by assumption) ?_
      repeat (first
        | (refine TakeSeq.cons (v := ?_) rfl (by rfl) ?_ ?_
           rotate_left
           · ((intro w hSw; unfold MdB StB at hSw; go_simp) <;> (try with_reducible rfl))
           (try rw [hd1])
           (try rw [hd2])
           (try go_simp))
        | (refine TakeSeq.skip rfl (by rfl) ?_; (try go_simp)))
      refine TakeSeq.nil ?_
      refine callH 28 (by kernel_rfl) (by kernel_rfl) rfl (by rfl) ?_
      intro K hK
      go_simp
      go_at_call 108
      with_reducible refine (HA2.out _ hbz).mono ?_
      rintro e w6 ⟨rfl, rfl⟩
      refine hK.out _ _ (HSF.out _ hbz) (fun hHeld => ?_)
      clear hK K
      (try go_simp)
      refine takesH [31, 32, 33, 34] (by kernel_rfl) (by repeat (first | exact PutFree.body | apply PutFree.then | apply PutFree.inBlock)) (by kernel_rfl) (by kernel_rfl) (by assumption) ?_
      repeat (first
        | (refine TakeSeq.cons (v := ?_) rfl (by rfl) ?_ ?_
           rotate_left
           · ((intro w hSw; unfold MdB StB at hSw; go_simp) <;> (try with_reducible rfl))
           (try rw [hd1])
           (try rw [hd2])
           (try go_simp))
        | (refine TakeSeq.skip rfl (by rfl) ?_; (try go_simp)))
      refine TakeSeq.nil ?_
      refine doneH (by kernel_rfl) ?_
      go_wp2
      go_ret
      exact ⟨ret_bool HT.out.symm, HB.out.trans ((HBW.out.trans (hbz.mono HSZ.out)).mono HB.out.size)⟩
  · have HT : Hid (freeS M s (j : Int) u = false) := by unfold Hid freeS; rw [HCP.out, HIN.out]; rfl
    rw [HT.out]
    clear HT
    go_enter Tryz.func93, Tryz.ntmps93
    go_wp2_with fail
    refine (HCO.out _ (Below.refl _ _)).mono ?_
    rintro e w3 ⟨rfl, hb3⟩
    go_wp2
    go_ret
    exact ⟨rfl, HB.out.trans (hb3.mono HB.out.size)⟩
end Go.Proofs.YtadjnfpomjopkaaGreat

namespace Go.Proofs.YtadjnfpomjopkaaGreat
open Go.RowKit

set_option maxRecDepth 100000 in
set_option maxHeartbeats 4000000 in
theorem apartQ {w : World} {q : Mem} {M : Mdl} {r : Stm} {s : Sta} (hm : MdQ w q M) (hs : StQ w r s) (e u : Int) :
    Calls Tryz.prog 94 #[.agg (mdC q M), .agg (stC r s), .int .i64 e, .int .i64 u] w (Ret w (.bool (aptS M s e u))) := by
  obtain ⟨W1, W, h1, h2, HB, HM, HS, HF⟩ := boxMS hm hs
  have HAT : Hid (∀ V i, Below W.heap.size W V → Calls Tryz.prog 108 #[.slice r.a3 s.did.length r.k3, .int .i64 i] V fun o w' => o = .returned (.int .i64 (atZ s.did i)) ∧ w' = V) := fun V i hV => ratz_any (HS.out.below hV).did i
  have hmx := HM.out.sods.max
  unfold MdB StB at HF
  unfold mdC at h1
  unfold stC at h2
  unfold mdC stC
  clear hm hs
  obtain ⟨R, hR⟩ : ∃ R, aptS M s e u = R := ⟨_, rfl⟩
  have HR := Lib.hid hR
  rw [hR]
  clear hR
  obtain ⟨⟨-, -, -, -, -, -, -, -, c8, -⟩, -, -, -, d3, -⟩ := HF.out _ (Below.refl _ _)
  go_enter Tryz.func94, Tryz.ntmps94
  go_wp2
  go_loopw [14] (fun i wr => ∃ k : Nat, i = .int .i64 (k : Int) ∧ k ≤ M.sods.length ∧ Hid (Below W.heap.size W wr ∧ (List.range k).any (fun i => aptX s e u (sodG M i)) = false)) (fun i _ => M.sods.length - (intOf i).toNat)
  case atStart => exact ⟨0, rfl, Nat.zero_le _, Below.refl _ _, rfl⟩
  case round =>
    obtain ⟨k, rfl, hk, HALL⟩ := hrel
    clear c8 d3
    rcases Nat.lt_or_ge k M.sods.length with hlt | hge
    · obtain ⟨x, b, off, hx, ha, ⟨a0, a1⟩, W3, h3, hb3, x3⟩ := sodBox (HM.out.below HALL.out.1).sods hlt
      have hkz := ltI hlt
      have HX : Hid (aptX s e u (sodG M k) = ((decide (x.1 = e) && hasB (atZ s.did x.2) u) || (decide (x.2 = e) && hasB (atZ s.did x.1) u))) := by unfold Hid; rw [sodG_of hx]; rfl
      have HB3 := Lib.hid (HALL.out.1.trans (hb3.mono HALL.out.1.size))
      obtain ⟨⟨-, -, -, -, -, -, -, -, c8, -⟩, -, -, -, d3, -⟩ := HF.out _ HALL.out.1
      obtain ⟨⟨-, -, -, -, -, -, -, -, e8, -⟩, -, -, -, e3, -⟩ := HF.out _ HB3.out
      have g0 := x3.cell (i := 0) rfl
      have g1 := x3.cell (i := 1) rfl
      clear hx x3 hb3
      cases hA : decide (x.1 = e) <;> cases hB : decide (x.2 = e) <;> cases t1 : hasB (atZ s.did x.2) u <;> cases t2 : hasB (atZ s.did x.1) u
      all_goals
        rw [hA, hB, t1, t2] at HX
        have hA' : (x.1 == e) = _ := hA
        have hB' : (x.2 == e) = _ := hB
        clear hA hB
        go_wp2_with (first
          | (go_at_call 108; with_reducible refine (HAT.out _ _ HB3.out).mono ?_; rintro o w4 ⟨rfl, rfl⟩)
          | (go_at_call 96; refine (has_any _ _ _).mono ?_; rintro o w4 ⟨rfl, rfl⟩)
          | fail)
        first
        | (go_ret
           refine ⟨ret_bool ?_, HB.out.trans (HB3.out.mono HB.out.size)⟩
           rw [← HR.out]; symm; exact anyR_hit hlt HX.out)
        | ((try rw [← ha])
           go_roundw
           case rel => exact ⟨k + 1, by go_num, hlt, HB3.out, anyR_miss HALL.out.2 HX.out⟩
           case measure => simp [intOf]; omega)
    · have hkn : k = M.sods.length := by omega
      have HRT : Hid (R = false) := by unfold Hid; rw [← HR.out, ← HALL.out.2, hkn]; rfl
      have HB3 := Lib.hid HALL.out.1
      have hge' := nltI (Nat.not_lt.2 hge)
      clear HALL hkn
      go_wp2
      go_ret
      exact ⟨ret_bool HRT.out.symm, HB.out.trans (HB3.out.mono HB.out.size)⟩

set_option maxRecDepth 100000 in
set_option maxHeartbeats 2000000 in
theorem enabQ {w : World} {q : Mem} {M : Mdl} {r : Stm} {s : Sta} (hm : MdQ w q M) (hs : StQ w r s) (e u : Int) :
    Calls Tryz.prog 80 #[.agg (mdC q M), .agg (stC r s), .int .i64 e, .int .i64 u] w (Ret w (.bool (enabS M s e u))) := by
  obtain ⟨W1, W, h1, h2, HB, HM, HS, HF⟩ := boxMS hm hs
  have HFR := Lib.hid (freeQ HM.out HS.out e u)
  have HAP : Hid (∀ V, Below W.heap.size W V → Calls Tryz.prog 94 #[.agg (mdC q M), .agg (stC r s), .int .i64 e, .int .i64 u] V (Ret V (.bool (aptS M s e u)))) := fun V hV => apartQ (HM.out.below hV) (HS.out.below hV) e u
  unfold MdB StB at HF
  unfold mdC at h1 HFR HAP
  unfold stC at h2 HFR HAP
  unfold mdC stC enabS
  clear hm hs
  obtain ⟨⟨c0, c1, c2, c3, c4, c5, c6, c7, c8, c9⟩, d0, d1, d2, d3, d4⟩ := HF.out _ (Below.refl _ _)
  obtain ⟨f, hf⟩ : ∃ f, freeS M s e u = f := ⟨_, rfl⟩
  obtain ⟨a, ha⟩ : ∃ a, aptS M s e u = a := ⟨_, rfl⟩
  rw [hf] at HFR
  rw [ha] at HAP
  rw [hf, ha]
  clear hf ha
  cases f
  · go_enter Tryz.func80, Tryz.ntmps80
    go_wp2_with fail
    refine HFR.out.mono ?_
    rintro o w3 ⟨rfl, hb3⟩
    go_wp2
    go_ret
    exact ⟨rfl, HB.out.trans (hb3.mono HB.out.size)⟩
  · go_enter Tryz.func80, Tryz.ntmps80
    go_wp2_with fail
    refine HFR.out.mono ?_
    rintro o w3 ⟨rfl, hb3⟩
    have HB3 := Lib.hid hb3
    clear c0 c1 c2 c3 c4 c5 c6 c7 c8 c9 d0 d1 d2 d3 d4
    obtain ⟨⟨c0, c1, c2, c3, c4, c5, c6, c7, c8, c9⟩, d0, d1, d2, d3, d4⟩ := HF.out _ hb3
    clear hb3
    go_wp2_with fail
    refine (HAP.out _ HB3.out).mono ?_
    rintro o w4 ⟨rfl, hb4⟩
    have HB4 := Lib.hid (HB3.out.trans (hb4.mono HB3.out.size))
    clear hb4
    cases a
    all_goals
      go_wp2
      go_ret
      exact ⟨rfl, HB.out.trans (HB4.out.mono HB.out.size)⟩
end Go.Proofs.YtadjnfpomjopkaaGreat

namespace Go.Proofs.YtadjnfpomjopkaaGreat
open Go.RowKit Go.Shelf
attribute [local go_sem] Oper.semAt_some

/-- all pairs ahead of one -/
def prN (U e u : Nat) : List (Nat × Nat) := ((List.range e).flatMap fun a => (List.range U).map fun b => (a, b)) ++ (List.range u).map fun b => (e, b)
theorem prN_next (U e u : Nat) : prN U e (u + 1) = prN U e u ++ [(e, u)] := by simp [prN, List.range_succ, List.append_assoc]
theorem prN_row (U e : Nat) : prN U e U = prN U (e + 1) 0 := by simp [prN, List.range_succ, List.flatMap_append]
theorem prN_len (U e u : Nat) : (prN U e u).length = e * U + u := by
  simp only [prN, List.length_append, List.length_map, List.length_range, List.length_flatMap]
  congr 1
  induction e with
  | zero => simp
  | succ e ih => rw [List.range_succ, List.map_append, List.sum_append, ih]; simp [Nat.succ_mul]
theorem prN_any (U E : Nat) (f : Nat → Nat → Bool) : ((prN U E 0).any fun p => f p.1 p.2) = (List.range E).any fun a => (List.range U).any fun b => f a b := by
  simp only [prN, List.range_zero, List.map_nil, List.append_nil, List.any_flatMap, List.any_map]
  rfl
set_option maxRecDepth 100000 in
theorem pairsQ (w : World) (q : Mem) (M : Mdl) :
    Calls Tryz.prog 92 #[.agg (mdC q M)] w fun e w' => e = .returned (.func (.func 105) #[] #[.pointer (some ⟨w.heap.size, 0, none⟩)]) ∧ w' = w.alloc (.cells (mdC q M) 32) := by
  unfold mdC
  go_enter Tryz.func92, Tryz.ntmps92
  go_wp2
  go_ret
  exact ⟨rfl, rfl⟩
set_option maxRecDepth 100000 in
set_option maxHeartbeats 2000000 in
theorem pairs_seq (m b n0 : Nat) {q : Mem} {M : Mdl} (w : World) (hb : Blk w b (mdC q M) 32) (hn : b < n0) (hE : M.events.length ≤ 9223372036854775807) (hU : M.users.length ≤ 9223372036854775807) :
    SeqStopsK Fence.wide m Tryz.prog 105 #[.pointer (some ⟨b, 0, none⟩)] (fun p : Nat × Nat => #[.int .i64 p.1, .int .i64 p.2]) (Below n0) (fun xs => xs = prN M.users.length M.events.length 0) (fun _ => True) (M.events.length * M.users.length + 1) w := by
  intro l J Jx W hB hJ hJx hY h0
  have HY := Lib.hid hY
  have HF : Hid (∀ A : World, Below n0 W A → A.cell? ⟨b, 5, none⟩ = some (.slice q.a5 M.events.length q.k5) ∧ A.cell? ⟨b, 2, none⟩ = some (.slice q.a2 M.users.length q.k2)) := by
    intro A hA
    have := (hb.keep hB).low hA hn
    exact ⟨this.cell rfl, this.cell rfl⟩
  clear hY hJ hJx hb hB
  refine callsIn_of_wp Tryz.func105 rfl trivial ?_ rfl
  simp only [Tryz.ntmps105, List.size_toArray, List.length_cons, List.length_nil, Nat.reduceAdd, Nat.reduceSub, Array.replicate_succ, Array.replicate_zero, List.push_toArray, List.append_toArray, List.nil_append, List.cons_append]
  obtain ⟨c5, c2⟩ := HF.out W (Below.refl _ _)
  obtain ⟨E, hEE⟩ : ∃ E, M.events.length = E := ⟨_, rfl⟩
  obtain ⟨U, hUU⟩ : ∃ U, M.users.length = U := ⟨_, rfl⟩
  rw [hEE] at HF HY hE c5 ⊢
  rw [hUU] at HF HY hU c2 ⊢
  clear hEE hUU
  gi_wp2
  gi_loopw [3, 4, 8] (fun _ _ i wr => ∃ k : Nat, k ≤ E ∧ i = .int .i64 (k : Int) ∧ Hid (J (prN U k 0) wr ∧ Below n0 W wr)) (fun _ _ i _ => E - (intOf i).toNat)
  case atStart => exact ⟨0, Nat.zero_le _, rfl, h0, Below.refl _ _⟩
  case round =>
    clear c5 c2
    obtain ⟨k, hk, rfl, HALL⟩ := hrel
    obtain ⟨c5, c2⟩ := HF.out wr HALL.out.2
    rcases Nat.lt_or_ge k E with hlt | hge
    · have hkz := ltI hlt
      have HA1 := Lib.hid HALL.out
      obtain ⟨wo, hwo⟩ : ∃ w1, wr = w1 := ⟨_, rfl⟩
      rw [hwo] at HA1 c2 c5 ⊢
      clear HALL hwo
      gi_wp2
      gi_loopw [4, 14] (fun _ i wr => ∃ j : Nat, j ≤ U ∧ i = .int .i64 (j : Int) ∧ Hid (J (prN U k j) wr ∧ Below n0 W wr)) (fun _ i _ => U - (intOf i).toNat)
      case atStart => exact ⟨0, Nat.zero_le _, rfl, HA1.out.1, HA1.out.2⟩
      case round =>
        clear c5 c2 HA1
        obtain ⟨j, hj, rfl, HALL⟩ := hrel
        rcases Nat.lt_or_ge j U with hl2 | hg2
        · have hjz := ltI hl2
          obtain ⟨fn, tmps, assign, body, hyy, hR⟩ := HY.out (prN U k j) (k, j) wr HALL.out.1 (by
            rw [prN_len]
            have h1 : k * U + U ≤ E * U := by
              have := Nat.mul_le_mul_right U hlt
              rw [Nat.succ_mul] at this; exact this
            omega)
          have HR := Lib.hid hR
          clear hR
          gi_wp2
          refine ⟨fun h => by simp [Fence.wide] at h, HR.out.mono ?_⟩
          intro e w' hRe
          rcases hRe with ⟨rfl, hj', hk'⟩ | ⟨rfl, hx'⟩
          · have HJ := Lib.hid hj'
            have HK := Lib.hid (HALL.out.2.trans hk')
            clear hj' hk' HALL hyy HR
            gi_wp2
            go_roundw
            case rel => exact ⟨j + 1, hl2, by go_num, by rw [prN_next]; exact HJ.out, HK.out⟩
            case measure => simp [intOf]; omega
          · have HX := Lib.hid hx'
            clear hx' HALL hyy HR
            gi_wp2
            refine bodyPost_ret (results_none rfl _ _ _) rfl ?_
            exact ⟨⟨_, rfl⟩, .inr ⟨_, trivial, HX.out⟩⟩
        · have hjn : j = U := by omega
          subst hjn
          have hge' := nltI (Nat.not_lt.2 hg2)
          gi_wp2
          go_roundw
          case rel => exact ⟨k + 1, hlt, by go_num, by rw [← prN_row]; exact HALL.out.1, HALL.out.2⟩
          case measure => simp [intOf]; omega
    · have hkn : k = E := by omega
      subst hkn
      have hge' := nltI (Nat.not_lt.2 hge)
      gi_wp2
      go_end0
      exact ⟨⟨_, rfl⟩, .inl HALL.out.1⟩

theorem Blk.putO {w : World} {b : Nat} {cs : Array Value} {t : TypeId} (h : Blk w b cs t) {k : Nat} (hk : b ≠ k) (o : Obj) : Blk (w.putObj k o) b cs t := (World.putObj_heap_other hk).trans h
/-- the same, where nothing panics -/
def noPanicQ (Q : Exit → Act → World → Prop) : Exit → Act → World → Prop
  | .panic _, _, _ => False
  | .outgrown, a, w => Q .outgrown a w
  | .normal, a, w => Q .normal a w
  | .ret, a, w => Q .ret a w
  | .exit i, a, w => Q (.exit i) a w
  | .goto i, a, w => Q (.goto i) a w
theorem noPanicQ_of {Q : Exit → Act → World → Prop} {e : Exit} {a : Act} {w : World} (h : noPanicQ Q e a w) : Q e a w := by
  cases e <;> first | exact h | exact h.elim
set_option maxRecDepth 100000 in
set_option maxHeartbeats 4000000 in
theorem anyQ {w : World} {q : Mem} {M : Mdl} {r : Stm} {s : Sta} (hm : MdQ w q M) (hs : StQ w r s) :
    Calls Tryz.prog 79 #[.agg (mdC q M), .agg (stC r s)] w (Ret w (.bool (anyS M s))) := by
  obtain ⟨W1, W2, h1, h2, HB, HM, HS, HF⟩ := boxMS hm hs
  obtain ⟨W3, h3, hb3, x3⟩ := box1 W2 #[.bool false] 4
  obtain ⟨W4, h4, hb4, x4⟩ := box1 W3 (mdC q M) 32
  have hs3 : W3.heap.size = W2.heap.size + 1 := by rw [← h3]; simp
  have hs4 : W4.heap.size = W3.heap.size + 1 := by rw [← h4]; simp
  have HB4 := Lib.hid (hb3.trans (hb4.mono hb3.size))
  have HX := Lib.hid (And.intro (x3.keep hb4) x4)
  have HSZ := Lib.hid (And.intro hs3 hs4)
  have HP := Lib.hid (pairsQ W3 q M)
  rw [h4] at HP
  have hE := hm.events.max
  have hU := hm.users.max
  have HSEQ := Lib.hid (pairs_seq 9 W3.heap.size W4.heap.size W4 x4 (by omega) hE hU)
  have HEN : Hid (∀ V (e u : Int), Below W2.heap.size W2 V → Calls Tryz.prog 80 #[.agg (mdC q M), .agg (stC r s), .int .i64 e, .int .i64 u] V (Ret V (.bool (enabS M s e u)))) := fun V e u hV => enabQ (HM.out.below hV) (HS.out.below hV) e u
  have HR : Hid ((prN M.users.length M.events.length 0).any (fun p => enabS M s (p.1 : Int) (p.2 : Int)) = anyS M s) := prN_any M.users.length M.events.length (fun a b => enabS M s a b)
  unfold MdB StB at HF
  unfold mdC at h1 HP HEN
  unfold stC at h2 HEN
  unfold mdC stC
  obtain ⟨⟨c0, c1, c2, c3, c4, c5, c6, c7, c8, c9⟩, -⟩ := HF.out _ hb3
  clear hm hs hb3 hb4 x3 x4 h4 hs3 hs4 hE hU
  refine (callsIn_wide (n := 10)).1 (callsIn_of_wp_marks Tryz.func79 rfl trivial ?_ rfl)
  refine wpIn_wide.2 ?_
  refine wp_mono (Q := noPanicQ (bodyPostM Fence.wide 10 Tryz.prog Tryz.f79 _)) ?_ (fun e a w h => noPanicQ_of h)
  simp only [Tryz.ntmps79, List.size_toArray, List.length_cons, List.length_nil, Nat.reduceAdd, Nat.reduceSub, Array.replicate_succ, Array.replicate_zero, List.push_toArray, List.append_toArray, List.nil_append, List.cons_append]
  go_wp2_with fail
  refine HP.out.mono ?_
  rintro e w9 ⟨rfl, hw⟩
  rw [hw]
  clear hw w9 HP
  go_wp2_with fail
  refine (wpIn_wide (n := 10)).1 ?_
  refine wpIn_rangeFunc_ownG rfl (by omega) (gf := 105) (lb := #[.pointer (some ⟨W3.heap.size, 0, none⟩)]) rfl trivial (enters_of Tryz.func105 (by kernel_rfl) rfl) HSEQ.out (fun h k => h.trans k) ?kb (Below.refl _ _) (fun _ => rfl)
      (fun pre Wx => Below W4.heap.size W4 Wx ∧ pre.any (fun p => enabS M s (p.1 : Int) (p.2 : Int)) = false) (fun c _ Wx => c = .ret ∧ Below W2.heap.size W2 Wx ∧ Blk Wx W2.heap.size #[.bool true] 4 ∧ anyS M s = true) ?own ?ownx ⟨Below.refl _ _, rfl⟩ ?act ?assign ?body ?done ?stop
  case assign =>
    intro l x Wx K hK
    gi_wp2
    exact hK
  case kb => exact belowK_b (Nat.le_refl _)
  case own =>
    rintro s A A' row ⟨h1, h2⟩ hg hr
    exact ⟨h1.grown hg h1.size (fun k e => (hr k e).1), h2⟩
  case ownx =>
    rintro c s A A' row ⟨h1, h2, h3, h4⟩ hg hr
    have hlt := HSZ.out
    exact ⟨h1, h2.grown hg h2.size (fun k e => by have := (hr k e).1; omega), h3.grown hg (fun e => by have := (hr _ e).1; omega), h4⟩
  case body =>
    rintro l pre x Wx ⟨hx1, hx2⟩ hpre
    have hV := HB4.out.trans (hx1.mono HB4.out.size)
    have HE := Lib.hid (HEN.out Wx (x.1 : Int) (x.2 : Int) hV)
    obtain ⟨⟨c0, c1, c2, c3, c4, c5, c6, c7, c8, c9⟩, d0, d1, d2, d3, d4⟩ := HF.out _ hV
    obtain ⟨t, ht⟩ : ∃ t, enabS M s (x.1 : Int) (x.2 : Int) = t := ⟨_, rfl⟩
    have HT := Lib.hid ht
    rw [ht] at HE
    have HV := Lib.hid hV
    have H1 := Lib.hid hx1
    have H2 := Lib.hid hx2
    clear hV ht hx1 hx2
    gi_wp2
    refine ⟨trivial, (CallsIn.inRound l (callsIn_wide.2 HE.out)).mono ?_⟩
    rintro e W' ⟨rfl, hb⟩
    have HB5 := Lib.hid hb
    have y3 := (HX.out.1.keep H1.out).keep hb
    have e0 := y3.cell (i := 0) rfl
    have ef := y3.free 0
    have HY := Lib.hid y3
    clear hb y3 c0 c1 c2 c3 c4 c5 c6 c7 c8 c9 d0 d1 d2 d3 d4
    cases t
    · gi_wp2
      refine ⟨⟨HB5.out.size, fun k o _ hk _ => (HB5.out.block k (Array.getElem?_eq_some_iff.1 hk).1).trans hk⟩, HB5.out.mono H1.out.size, H1.out.trans (HB5.out.mono H1.out.size), ?_⟩
      rw [List.any_append, H2.out]
      simp only [List.any_cons, List.any_nil, Bool.or_false, Bool.false_or]
      exact HT.out
    · have HAN : Hid (anyS M s = true) := by
        unfold Hid anyS
        by_cases hE : x.1 < M.events.length ∧ x.2 < M.users.length
        · exact List.any_eq_true.2 ⟨x.1, List.mem_range.2 hE.1, List.any_eq_true.2 ⟨x.2, List.mem_range.2 hE.2, HT.out⟩⟩
        · have := HT.out
          unfold enabS freeS freeV ofR at this
          simp only [Bool.and_eq_true] at this
          have h1 := inM_iff.1 this.1.1.1
          have h2 := inM_iff.1 this.1.2.1.2.1.2
          exact absurd ⟨by omega, by omega⟩ hE
      gi_wp2
      refine ⟨⟨by simpa using HB5.out.size, fun k o _ hk hc => ?_⟩, rfl, ?_, HY.out.store 0 _, HAN.out⟩
      · have hkk := (HB5.out.block k (Array.getElem?_eq_some_iff.1 hk).1).trans hk
        refine (Below.heap_setCell _ _ _ _ ?_).trans hkk
        rintro rfl
        have := HY.out
        unfold Blk at this
        rw [hkk] at this
        cases this
        cases hc
      · exact ((HB4.out.trans (H1.out.mono HB4.out.size)).trans (HB5.out.mono HV.out.size)).setCell (p := ⟨W2.heap.size, 0, none⟩) (Nat.le_refl _) _
  case done =>
    rintro D xs Wx hD rfl ⟨hx1, hx2⟩ hK
    have hV := HB4.out.trans (hx1.mono HB4.out.size)
    have y3 := HX.out.1.keep hx1
    have e0 := y3.cell (i := 0) rfl
    have ef := y3.free 0
    have HV := Lib.hid hV
    have HY := Lib.hid y3
    have HK := Lib.hid hK
    have HF : Hid (anyS M s = false) := by unfold Hid; rw [← HR.out]; exact hx2
    have hne : D ≠ W2.heap.size := by have := HSZ.out; omega
    have HD := Lib.hid ((Below.heap_setCell Wx ⟨W2.heap.size, 0, none⟩ (.bool false) D hne).trans hK)
    clear hx1 hx2 hK hV y3
    go_wp2_with fail
    refine ⟨by simp, .inl ⟨_, _, rfl, run_takeDeferred HD.out, ?_⟩⟩
    have hcell : ((Wx.setCell ⟨W2.heap.size, 0, none⟩ (.bool false)).putObj D (.deferred none)).cell? ⟨W2.heap.size, 0, none⟩ = some (.bool false) := ((HY.out.store 0 (.bool false)).putO (Ne.symm hne) _).cell rfl
    refine ⟨.bool false, by simp [results, Tryz.results79, go_sem, hcell], by rw [HF.out], ?_⟩
    have hb5 := HV.out.setCell (p := ⟨W2.heap.size, 0, none⟩) (Nat.le_refl _) (.bool false)
    exact HB.out.trans ((hb5.grown (grownBy_putObj' _ D _) hb5.size (fun k e => by cases e; have := HSZ.out; omega)).mono HB.out.size)
  case stop =>
    rintro D c pre Wx hD _ ⟨rfl, hx1, hx2, hx3⟩ hK
    have HK := Lib.hid hK
    have HX1 := Lib.hid hx1
    have HX2 := Lib.hid hx2
    have HX3 := Lib.hid hx3
    clear hx1 hx2 hx3 hK
    gi_wp2
    refine ⟨by simp, .inl ⟨_, _, rfl, run_takeDeferred HK.out, ?_⟩⟩
    have hne : W2.heap.size ≠ D := by have := HSZ.out; omega
    have hcell : (Wx.putObj D (.deferred none)).cell? ⟨W2.heap.size, 0, none⟩ = some (.bool true) := (HX2.out.putO hne _).cell rfl
    refine ⟨.bool true, by simp [results, Tryz.results79, go_sem, hcell], by rw [HX3.out], ?_⟩
    exact HB.out.trans ((HX1.out.grown (grownBy_putObj' _ D _) HX1.out.size (fun k e => by cases e; have := HSZ.out; omega)).mono HB.out.size)
end Go.Proofs.YtadjnfpomjopkaaGreat
