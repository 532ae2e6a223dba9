/- state: of, Check (printed by gen_st1.py). -/
import Derived.Test.YtadjnfpomjopkaaGreatSm13
import Derived.BigQuiet

namespace Go.Proofs.YtadjnfpomjopkaaGreat
open Go.RowKit

set_option maxHeartbeats 1000000 in
theorem stof_any (s : Int) (n : Nat) (w : World) :
    Calls Tryz.prog 91 #[.int .i64 s, .int .i64 n] w fun e w' => e = .returned (.bool (ofN s n)) ∧ w = w' := by
  by_cases h0 : 0 ≤ s
  · have HE : Hid (ofN s n = decide (s ≤ firstZ n)) := by unfold Hid ofN; rw [decide_eq_true h0, Bool.true_and]
    rw [HE.out]
    go_enter Tryz.func91, Tryz.ntmps91
    go_wp2_with (go_at_call 104; refine (first_any _ _).mono ?_; rintro e w' ⟨rfl, rfl⟩)
    go_ret
    exact ⟨rfl, rfl⟩
  · have HE : Hid (ofN s n = false) := by unfold Hid ofN; rw [decide_eq_false h0]; rfl
    rw [HE.out]
    go_enter Tryz.func91, Tryz.ntmps91
    go_wp2
    go_ret
    exact ⟨rfl, rfl⟩

theorem chkE_of {M : Mdl} {s : Sta} {k : Nat} {x : Ev} {dv cv : Int} (hx : M.events[k]? = some x) (hd : s.did[k]? = some dv) (hc : s.cnt[k]? = some cv) : chkE M s k = (ofN dv M.users.length && decide (0 ≤ cv) && decide (cv ≤ x.times)) := by
  unfold chkE; rw [evG_of hx, getD_of _ hd, getD_of _ hc]
set_option maxRecDepth 100000 in
set_option maxHeartbeats 4000000 in
theorem checkQ {w : World} {q : Mem} {M : Mdl} {r : Stm} {s : Sta} (hm : MdQ w q M) (hs : StQ w r s) :
    Calls Tryz.prog 78 #[.agg (mdC q M), .agg (stC r s)] w (Ret w (.bool (chkS M s))) := by
  obtain ⟨W1, W, h1, h2, HB, HM, HS, HF⟩ := boxMS hm hs
  have hme := HM.out.events.max
  unfold MdB StB at HF
  unfold mdC at h1
  unfold stC at h2
  unfold mdC stC
  clear hm hs
  obtain ⟨⟨c0, c1, c2, c3, c4, c5, c6, c7, c8, c9⟩, d0, d1, d2, d3, d4⟩ := HF.out _ (Below.refl _ _)
  by_cases e1 : s.vals.length = M.attrs.length
  · have b1 : ((s.vals.length : Int) != (M.attrs.length : Int)) = false := by simp [e1]
    by_cases e2 : s.did.length = M.events.length
    · have b2 : ((s.did.length : Int) != (M.events.length : Int)) = false := by simp [e2]
      by_cases e3 : s.cnt.length = M.events.length
      · have b3 : ((s.cnt.length : Int) != (M.events.length : Int)) = false := by simp [e3]
        have HC : Hid (chkS M s = ((ofN s.opn M.stages.length && ofN s.dne M.miles.length) && (List.range M.events.length).all (chkE M s))) := by unfold Hid chkS chkL; rw [decide_eq_true e1, decide_eq_true e2, decide_eq_true e3]; rfl
        have HE2 := Lib.hid e2
        have HE3 := Lib.hid e3
        clear e1 e2 e3
        cases o1 : ofN s.opn M.stages.length
        · have HR : Hid (chkS M s = false) := by unfold Hid; rw [HC.out, o1]; rfl
          have HO : Hid (∀ V, Calls Tryz.prog 91 #[.int .i64 s.opn, .int .i64 M.stages.length] V fun e w' => e = .returned (.bool false) ∧ V = w') := fun V => by have := stof_any s.opn M.stages.length V; rwa [o1] at this
          rw [HR.out]
          clear o1
          go_enter Tryz.func78, Tryz.ntmps78
          go_wp2_with (go_at_call 91; with_reducible refine (HO.out _).mono ?_; rintro e w' ⟨rfl, rfl⟩)
          go_ret
          exact ⟨rfl, HB.out⟩
        · have HO : Hid (∀ V, Calls Tryz.prog 91 #[.int .i64 s.opn, .int .i64 M.stages.length] V fun e w' => e = .returned (.bool true) ∧ V = w') := fun V => by have := stof_any s.opn M.stages.length V; rwa [o1] at this
          have HO1 := Lib.hid o1
          clear o1
          cases o2 : ofN s.dne M.miles.length
          · have HR : Hid (chkS M s = false) := by unfold Hid; rw [HC.out, HO1.out, o2]; rfl
            have HO3 : Hid (∀ V, Calls Tryz.prog 91 #[.int .i64 s.dne, .int .i64 M.miles.length] V fun e w' => e = .returned (.bool false) ∧ V = w') := fun V => by have := stof_any s.dne M.miles.length V; rwa [o2] at this
            rw [HR.out]
            clear o2
            go_enter Tryz.func78, Tryz.ntmps78
            go_wp2_with fail
            refine (HO.out _).mono ?_
            rintro e w' ⟨rfl, rfl⟩
            go_wp2_with fail
            refine (HO3.out _).mono ?_
            rintro e w' ⟨rfl, rfl⟩
            go_wp2
            go_ret
            exact ⟨rfl, HB.out⟩
          · have HR : Hid (chkS M s = (List.range M.events.length).all (chkE M s)) := by unfold Hid; rw [HC.out, HO1.out, o2]; rfl
            have HO3 : Hid (∀ V, Calls Tryz.prog 91 #[.int .i64 s.dne, .int .i64 M.miles.length] V fun e w' => e = .returned (.bool true) ∧ V = w') := fun V => by have := stof_any s.dne M.miles.length V; rwa [o2] at this
            rw [HR.out]
            obtain ⟨R, hR⟩ : ∃ R, (List.range M.events.length).all (chkE M s) = R := ⟨_, rfl⟩
            have HRR := Lib.hid hR
            rw [hR]
            clear o2 hR
            go_enter Tryz.func78, Tryz.ntmps78
            go_wp2_with fail
            refine (HO.out _).mono ?_
            rintro e w' ⟨rfl, rfl⟩
            go_wp2_with fail
            refine (HO3.out _).mono ?_
            rintro e w' ⟨rfl, rfl⟩
            go_wp2
            go_loopw [53] (fun i wr => ∃ k : Nat, i = .int .i64 (k : Int) ∧ k ≤ M.events.length ∧ Hid (Below W.heap.size W wr ∧ (List.range k).all (chkE M s) = true)) (fun i _ => M.events.length - (intOf i).toNat)
            case atStart => exact ⟨0, rfl, Nat.zero_le _, Below.refl _ _, rfl⟩
            case round =>
              obtain ⟨k, rfl, hk, HALL⟩ := hrel
              clear c0 c1 c2 c3 c4 c5 c6 c7 c8 c9 d0 d1 d2 d3 d4
              rcases Nat.lt_or_ge k M.events.length with hlt | hge
              · obtain ⟨x, b, off, ai, ki, hx, ha, -, ⟨g0, g1, g2, g3, g4⟩, W3, h3, hb3, x3⟩ := eventBox (HM.out.below HALL.out.1).events hlt
                obtain ⟨dv, hd⟩ : ∃ x, s.did[k]? = some x := ⟨_, List.getElem?_eq_getElem (by rw [HE2.out]; exact hlt)⟩
                obtain ⟨cv, hc⟩ : ∃ x, s.cnt[k]? = some x := ⟨_, List.getElem?_eq_getElem (by rw [HE3.out]; exact hlt)⟩
                have hkz := ltI hlt
                have hkd : (k : Int) < (s.did.length : Int) := by rw [HE2.out]; exact hkz
                have hkc : (k : Int) < (s.cnt.length : Int) := by rw [HE3.out]; exact hkz
                have hz : (0 : Int) ≤ (k : Int) := Int.natCast_nonneg _
                have HB3 := Lib.hid (HALL.out.1.trans (hb3.mono HALL.out.1.size))
                obtain ⟨bd, od, kd, hv1, hl1, f1⟩ := (HS.out.below HALL.out.1).did.int hd
                obtain ⟨bc, oc, kc, hv2, hl2, f2⟩ := (HS.out.below HALL.out.1).cnt.int hc
                simp only [Value.slice.injEq, true_and] at hv1 hv2
                have hx1 := hv1.1
                have hx2 := hv2.1
                have HX := Lib.hid (chkE_of hx hd hc)
                have HSZ := Lib.hid HB3.out.size
                have HSF : Hid (∀ V, Below W3.heap.size W3 V → MdB V w.heap.size q M ∧ StB V W1.heap.size r s ∧ V.cell? ⟨wr.heap.size, 4, none⟩ = some (.int .i64 x.times) ∧ V.cell? ⟨bd, od + k, none⟩ = some (.int .i64 dv) ∧ V.cell? ⟨bc, oc + k, none⟩ = some (.int .i64 cv)) := fun V hV => by
                  have hV2 : Below wr.heap.size wr V := hb3.trans (hV.mono hb3.size)
                  obtain ⟨m1, m2⟩ := HF.out V (HB3.out.trans (hV.mono HB3.out.size))
                  exact ⟨m1, m2, (x3.keep hV).cell rfl, (hV2.cell (p := ⟨bd, od + k, none⟩) hl1).trans f1, (hV2.cell (p := ⟨bc, oc + k, none⟩) hl2).trans f2⟩
                obtain ⟨⟨c0, c1, c2, c3, c4, c5, c6, c7, c8, c9⟩, d0, d1, d2, d3, d4⟩ := HF.out _ HALL.out.1
                clear hx hd hc x3 hb3 hv1 hv2 hl1 hl2 f1 f2
                cases t1 : ofN dv M.users.length
                · rw [t1] at HX
                  have HO4 : Hid (∀ V, Calls Tryz.prog 91 #[.int .i64 dv, .int .i64 M.users.length] V fun e w' => e = .returned (.bool false) ∧ V = w') := fun V => by have := stof_any dv M.users.length V; rwa [t1] at this
                  skip
                  clear t1
                  go_wp2_with fail
                  have hbz : Below W3.heap.size W3 W3.drew := (Below.refl _ _).drew
                  clear c0 c1 c2 c3 c4 c5 c6 c7 c8 c9 d0 d1 d2 d3 d4
                  refine startH (S := fun V => MdB V w.heap.size q M ∧ StB V W1.heap.size r s ∧ V.cell? ⟨wr.heap.size, 4, none⟩ = some (.int .i64 x.times) ∧ V.cell? ⟨bd, od + k, none⟩ = some (.int .i64 dv) ∧ V.cell? ⟨bc, oc + k, none⟩ = some (.int .i64 cv)) (by kernel_rfl) (HSF.out _ hbz) (fun hHeld => ?_)
                  refine takesH [0, 1, 2, 3, 4, 5, 6, 7] (by kernel_rfl) (fun _ _ d _ _ h => by cases d <;> exact h) (by kernel_rfl) (by kernel_rfl) (by assumption) ?_
                  repeat (first
                    | (refine TakeSeq.cons (v := ?_) rfl (by rfl) ?_ ?_
                       rotate_left
                       · ((intro w hSw; unfold MdB StB at hSw; go_simp) <;> (try with_reducible rfl))
                       (try go_simp))
                    | (refine TakeSeq.skip rfl (by rfl) ?_; (try go_simp)))
                  refine TakeSeq.nil ?_
                  refine callH 8 (by kernel_rfl) (by kernel_rfl) rfl (by rfl) ?_
                  intro K hK
                  go_simp
                  go_at_call 91
                  with_reducible refine (HO4.out _).mono ?_
                  rintro e w5 ⟨rfl, rfl⟩
                  refine hK.out _ _ (HSF.out _ hbz) (fun hHeld => ?_)
                  clear hK K
                  (try go_simp)
                  refine takesH [9, 10, 11, 12, 13, 14, 15, 16, 17, 18, 19, 20, 21, 22, 23, 24, 25, 26, 27] (by kernel_rfl) (fun _ _ d _ _ h => by cases d <;> exact h) (by kernel_rfl) (by kernel_rfl) (by assumption) ?_
                  repeat (first
                    | (refine TakeSeq.cons (v := ?_) rfl (by rfl) ?_ ?_
                       rotate_left
                       · ((intro w hSw; unfold MdB StB at hSw; go_simp) <;> (try with_reducible rfl))
                       (try go_simp))
                    | (refine TakeSeq.skip rfl (by rfl) ?_; (try go_simp)))
                  refine TakeSeq.nil ?_
                  refine doneH (by kernel_rfl) ?_
                  go_wp2
                  go_ret
                  exact ⟨ret_bool (HRR.out.symm.trans (allR_back hlt HX.out)).symm, HB.out.trans ((HB3.out.trans (hbz.mono HSZ.out)).mono HB.out.size)⟩
                · rcases (show cv < 0 ∨ (0 ≤ cv ∧ x.times < cv) ∨ (0 ≤ cv ∧ cv ≤ x.times) by omega) with p | p | p
                  · rw [t1, decide_eq_false (show ¬ 0 ≤ cv by omega)] at HX
                    have HO4 : Hid (∀ V, Calls Tryz.prog 91 #[.int .i64 dv, .int .i64 M.users.length] V fun e w' => e = .returned (.bool true) ∧ V = w') := fun V => by have := stof_any dv M.users.length V; rwa [t1] at this
                    have hd1 : decide (cv < 0) = true := decide_eq_true p
                    clear t1 p
                    go_wp2_with fail
                    have hbz : Below W3.heap.size W3 W3.drew := (Below.refl _ _).drew
                    clear c0 c1 c2 c3 c4 c5 c6 c7 c8 c9 d0 d1 d2 d3 d4
                    refine startH (S := fun V => MdB V w.heap.size q M ∧ StB V W1.heap.size r s ∧ V.cell? ⟨wr.heap.size, 4, none⟩ = some (.int .i64 x.times) ∧ V.cell? ⟨bd, od + k, none⟩ = some (.int .i64 dv) ∧ V.cell? ⟨bc, oc + k, none⟩ = some (.int .i64 cv)) (by kernel_rfl) (HSF.out _ hbz) (fun hHeld => ?_)
                    refine takesH [0, 1, 2, 3, 4, 5, 6, 7] (by kernel_rfl) (fun _ _ d _ _ h => by cases d <;> exact h) (by kernel_rfl) (by kernel_rfl) (by assumption) ?_
                    repeat (first
                      | (refine TakeSeq.cons (v := ?_) rfl (by rfl) ?_ ?_
                         rotate_left
                         · ((intro w hSw; unfold MdB StB at hSw; go_simp) <;> (try with_reducible rfl))
                         (try rw [hd1])
                         (try go_simp))
                      | (refine TakeSeq.skip rfl (by rfl) ?_; (try go_simp)))
                    refine TakeSeq.nil ?_
                    refine callH 8 (by kernel_rfl) (by kernel_rfl) rfl (by rfl) ?_
                    intro K hK
                    go_simp
                    go_at_call 91
                    with_reducible refine (HO4.out _).mono ?_
                    rintro e w5 ⟨rfl, rfl⟩
                    refine hK.out _ _ (HSF.out _ hbz) (fun hHeld => ?_)
                    clear hK K
                    (try go_simp)
                    refine takesH [9, 10, 11, 12, 13, 14, 15, 16, 17, 18, 19, 20, 21, 22, 23, 24, 25, 26, 27] (by kernel_rfl) (fun _ _ d _ _ h => by cases d <;> exact h) (by kernel_rfl) (by kernel_rfl) (by assumption) ?_
                    repeat (first
                      | (refine TakeSeq.cons (v := ?_) rfl (by rfl) ?_ ?_
                         rotate_left
                         · ((intro w hSw; unfold MdB StB at hSw; go_simp) <;> (try with_reducible rfl))
                         (try rw [hd1])
                         (try go_simp))
                      | (refine TakeSeq.skip rfl (by rfl) ?_; (try go_simp)))
                    refine TakeSeq.nil ?_
                    refine doneH (by kernel_rfl) ?_
                    go_wp2
                    go_ret
                    exact ⟨ret_bool (HRR.out.symm.trans (allR_back hlt HX.out)).symm, HB.out.trans ((HB3.out.trans (hbz.mono HSZ.out)).mono HB.out.size)⟩
                  · rw [t1, decide_eq_true p.1, decide_eq_false (show ¬ cv ≤ x.times by omega)] at HX
                    have HO4 : Hid (∀ V, Calls Tryz.prog 91 #[.int .i64 dv, .int .i64 M.users.length] V fun e w' => e = .returned (.bool true) ∧ V = w') := fun V => by have := stof_any dv M.users.length V; rwa [t1] at this
                    have hd1 : decide (cv < 0) = false := decide_eq_false (by omega)
                    have hd2 : decide (x.times < cv) = true := decide_eq_true p.2
                    clear t1 p
                    go_wp2_with fail
                    have hbz : Below W3.heap.size W3 W3.drew := (Below.refl _ _).drew
                    clear c0 c1 c2 c3 c4 c5 c6 c7 c8 c9 d0 d1 d2 d3 d4
                    refine startH (S := fun V => MdB V w.heap.size q M ∧ StB V W1.heap.size r s ∧ V.cell? ⟨wr.heap.size, 4, none⟩ = some (.int .i64 x.times) ∧ V.cell? ⟨bd, od + k, none⟩ = some (.int .i64 dv) ∧ V.cell? ⟨bc, oc + k, none⟩ = some (.int .i64 cv)) (by kernel_rfl) (HSF.out _ hbz) (fun hHeld => ?_)
                    refine takesH [0, 1, 2, 3, 4, 5, 6, 7] (by kernel_rfl) (fun _ _ d _ _ h => by cases d <;> exact h) (by kernel_rfl) (by kernel_rfl) (by assumption) ?_
                    repeat (first
                      | (refine TakeSeq.cons (v := ?_) rfl (by rfl) ?_ ?_
                         rotate_left
                         · ((intro w hSw; unfold MdB StB at hSw; go_simp) <;> (try with_reducible rfl))
                         (try rw [hd1])
                         (try rw [hd2])
                         (try go_simp))
                      | (refine TakeSeq.skip rfl (by rfl) ?_; (try go_simp)))
                    refine TakeSeq.nil ?_
                    refine callH 8 (by kernel_rfl) (by kernel_rfl) rfl (by rfl) ?_
                    intro K hK
                    go_simp
                    go_at_call 91
                    with_reducible refine (HO4.out _).mono ?_
                    rintro e w5 ⟨rfl, rfl⟩
                    refine hK.out _ _ (HSF.out _ hbz) (fun hHeld => ?_)
                    clear hK K
                    (try go_simp)
                    refine takesH [9, 10, 11, 12, 13, 14, 15, 16, 17, 18, 19, 20, 21, 22, 23, 24, 25, 26, 27] (by kernel_rfl) (fun _ _ d _ _ h => by cases d <;> exact h) (by kernel_rfl) (by kernel_rfl) (by assumption) ?_
                    repeat (first
                      | (refine TakeSeq.cons (v := ?_) rfl (by rfl) ?_ ?_
                         rotate_left
                         · ((intro w hSw; unfold MdB StB at hSw; go_simp) <;> (try with_reducible rfl))
                         (try rw [hd1])
                         (try rw [hd2])
                         (try go_simp))
                      | (refine TakeSeq.skip rfl (by rfl) ?_; (try go_simp)))
                    refine TakeSeq.nil ?_
                    refine doneH (by kernel_rfl) ?_
                    go_wp2
                    go_ret
                    exact ⟨ret_bool (HRR.out.symm.trans (allR_back hlt HX.out)).symm, HB.out.trans ((HB3.out.trans (hbz.mono HSZ.out)).mono HB.out.size)⟩
                  · rw [t1, decide_eq_true p.1, decide_eq_true p.2] at HX
                    have HO4 : Hid (∀ V, Calls Tryz.prog 91 #[.int .i64 dv, .int .i64 M.users.length] V fun e w' => e = .returned (.bool true) ∧ V = w') := fun V => by have := stof_any dv M.users.length V; rwa [t1] at this
                    have hd1 : decide (cv < 0) = false := decide_eq_false (by omega)
                    have hd2 : decide (x.times < cv) = false := decide_eq_false (by omega)
                    clear t1 p
                    go_wp2_with fail
                    have hbz : Below W3.heap.size W3 W3.drew := (Below.refl _ _).drew
                    clear c0 c1 c2 c3 c4 c5 c6 c7 c8 c9 d0 d1 d2 d3 d4
                    refine startH (S := fun V => MdB V w.heap.size q M ∧ StB V W1.heap.size r s ∧ V.cell? ⟨wr.heap.size, 4, none⟩ = some (.int .i64 x.times) ∧ V.cell? ⟨bd, od + k, none⟩ = some (.int .i64 dv) ∧ V.cell? ⟨bc, oc + k, none⟩ = some (.int .i64 cv)) (by kernel_rfl) (HSF.out _ hbz) (fun hHeld => ?_)
                    refine takesH [0, 1, 2, 3, 4, 5, 6, 7] (by kernel_rfl) (fun _ _ d _ _ h => by cases d <;> exact h) (by kernel_rfl) (by kernel_rfl) (by assumption) ?_
                    repeat (first
                      | (refine TakeSeq.cons (v := ?_) rfl (by rfl) ?_ ?_
                         rotate_left
                         · ((intro w hSw; unfold MdB StB at hSw; go_simp) <;> (try with_reducible rfl))
                         (try rw [hd1])
                         (try rw [hd2])
                         (try go_simp))
                      | (refine TakeSeq.skip rfl (by rfl) ?_; (try go_simp)))
                    refine TakeSeq.nil ?_
                    refine callH 8 (by kernel_rfl) (by kernel_rfl) rfl (by rfl) ?_
                    intro K hK
                    go_simp
                    go_at_call 91
                    with_reducible refine (HO4.out _).mono ?_
                    rintro e w5 ⟨rfl, rfl⟩
                    refine hK.out _ _ (HSF.out _ hbz) (fun hHeld => ?_)
                    clear hK K
                    (try go_simp)
                    refine takesH [9, 10, 11, 12, 13, 14, 15, 16, 17, 18, 19, 20, 21, 22, 23, 24, 25, 26, 27] (by kernel_rfl) (fun _ _ d _ _ h => by cases d <;> exact h) (by kernel_rfl) (by kernel_rfl) (by assumption) ?_
                    repeat (first
                      | (refine TakeSeq.cons (v := ?_) rfl (by rfl) ?_ ?_
                         rotate_left
                         · ((intro w hSw; unfold MdB StB at hSw; go_simp) <;> (try with_reducible rfl))
                         (try rw [hd1])
                         (try rw [hd2])
                         (try go_simp))
                      | (refine TakeSeq.skip rfl (by rfl) ?_; (try go_simp)))
                    refine TakeSeq.nil ?_
                    refine doneH (by kernel_rfl) ?_
                    go_wp2
                    (try rw [← ha])
                    (try rw [← hx1])
                    (try rw [← hx2])
                    go_roundw
                    case rel => exact ⟨k + 1, by go_num, hlt, HB3.out.trans (hbz.mono HSZ.out), allR_next HALL.out.2 HX.out⟩
                    case measure => simp [intOf]; omega
              · have hkn : k = M.events.length := by omega
                have HRT : Hid (R = true) := by unfold Hid; rw [← HRR.out, ← HALL.out.2, hkn]
                have HB3 := Lib.hid HALL.out.1
                have hge' := nltI (Nat.not_lt.2 hge)
                clear HALL hkn
                go_wp2
                go_ret
                exact ⟨ret_bool HRT.out.symm, HB.out.trans (HB3.out.mono HB.out.size)⟩
      · have HR : Hid (chkS M s = false) := by unfold Hid chkS chkL; rw [decide_eq_false e3]; simp
        have b3 : ((s.cnt.length : Int) != (M.events.length : Int)) = true := by simp; omega
        rw [HR.out]
        clear e1 e2 e3
        go_enter Tryz.func78, Tryz.ntmps78
        go_wp2
        go_ret
        exact ⟨rfl, HB.out⟩
    · have HR : Hid (chkS M s = false) := by unfold Hid chkS chkL; rw [decide_eq_false e2]; simp
      have b2 : ((s.did.length : Int) != (M.events.length : Int)) = true := by simp; omega
      rw [HR.out]
      clear e1 e2
      go_enter Tryz.func78, Tryz.ntmps78
      go_wp2
      go_ret
      exact ⟨rfl, HB.out⟩
  · have HR : Hid (chkS M s = false) := by unfold Hid chkS chkL; rw [decide_eq_false e1]; simp
    have b1 : ((s.vals.length : Int) != (M.attrs.length : Int)) = true := by simp; omega
    rw [HR.out]
    clear e1
    go_enter Tryz.func78, Tryz.ntmps78
    go_wp2
    go_ret
    exact ⟨rfl, HB.out⟩
end Go.Proofs.YtadjnfpomjopkaaGreat
