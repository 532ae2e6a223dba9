/- The reference: Check of a state (printed by gen_r3.py). The reference: Complete, Had, Free (printed by gen_r4.py). -/
import Derived.Test.YtadjnfpomjopkaaGreatSm23

namespace Go.Proofs.YtadjnfpomjopkaaGreat
open Go.RowKit

/-- a state of numbers that are there -/
structure SOK (s : Sta) : Prop where
  vals : ∀ x ∈ s.vals, N64 x
  opn : N64 s.opn
  dne : N64 s.dne
  did : ∀ x ∈ s.did, N64 x
  cnt : ∀ x ∈ s.cnt, N64 x
theorem ok_next {f : Nat → Bool} {o : Bool} {k : Nat} {a b : Bool} (h : (o && (List.range k).all f) = a) (hf : f k = b) : (o && (List.range (k + 1)).all f) = (a && b) := by rw [allR_succ, ← Bool.and_assoc, h, hf]
set_option maxRecDepth 100000 in
set_option maxHeartbeats 4000000 in
theorem rcheckQ {w : World} {q : Mem} {M : Mdl} {r : Stm} {s : Sta} (hm : MdQ w q M) (hs : StQ w r s) (hk : SOK s) :
    Calls Tryz.prog 62 #[.agg (mdC q M), .agg (stC r s)] w (Ret w (.bool (chkS M s))) := by
  obtain ⟨W1, W, h1, h2, HB, HM, HS, HF⟩ := boxMS hm hs
  have HOK := Lib.hid hk
  have hme := HM.out.events.max
  unfold MdB StB at HF
  unfold mdC at h1
  unfold stC at h2
  unfold mdC stC
  clear hm hs hk
  obtain ⟨⟨c0, c1, c2, c3, c4, c5, c6, c7, c8, c9⟩, d0, d1, d2, d3, d4⟩ := HF.out _ (Below.refl _ _)
  by_cases e1 : s.vals.length = M.attrs.length
  · have b1 : ((s.vals.length : Int) != (M.attrs.length : Int)) = false := by simp [e1]
    by_cases e2 : s.did.length = M.events.length
    · have b2 : ((s.did.length : Int) != (M.events.length : Int)) = false := by simp [e2]
      by_cases e3 : s.cnt.length = M.events.length
      · have b3 : ((s.cnt.length : Int) != (M.events.length : Int)) = false := by simp [e3]
        obtain ⟨ok0, hok0⟩ : ∃ o, (ofN s.opn M.stages.length && ofN s.dne M.miles.length) = o := ⟨_, rfl⟩
        obtain ⟨R, hR⟩ : ∃ R, chkS M s = R := ⟨_, rfl⟩
        have HC : Hid (R = (ok0 && (List.range M.events.length).all (chkE M s))) := by unfold Hid; rw [← hR, ← hok0]; unfold chkS chkL; rw [decide_eq_true e1, decide_eq_true e2, decide_eq_true e3]; rfl
        have HE2 := Lib.hid e2
        have HE3 := Lib.hid e3
        have HO0 := Lib.hid hok0
        have HO1 := Lib.hid (fun V => rwithin_any s.opn M.stages.length V HOK.out.opn)
        have HO2 := Lib.hid (fun V => rwithin_any s.dne M.miles.length V HOK.out.dne)
        rw [hR]
        clear e1 e2 e3 hok0 hR
        go_enter Tryz.func62, Tryz.ntmps62
        go_upto_region 4 with fail
        go_cut [6] (fun v6 wx => v6 = .bool ok0 ∧ wx = W)
        case first =>
          cases o1 : ofN s.opn M.stages.length
          · rw [o1] at HO0 HO1
            clear o1
            go_wp2_with (go_at_call 74; with_reducible refine (HO1.out _).mono ?_; rintro e w' ⟨rfl, rfl⟩)
            go_meet
            exact ⟨by rw [← HO0.out]; rfl, rfl⟩
          · rw [o1] at HO0 HO1
            cases o2 : ofN s.dne M.miles.length
            · rw [o2] at HO0 HO2
              clear o1 o2
              go_wp2_with fail
              refine (HO1.out _).mono ?_
              rintro e w' ⟨rfl, rfl⟩
              go_wp2_with fail
              refine (HO2.out _).mono ?_
              rintro e w' ⟨rfl, rfl⟩
              go_wp2_with fail
              go_meet
              exact ⟨by rw [← HO0.out]; rfl, rfl⟩
            · rw [o2] at HO0 HO2
              clear o1 o2
              go_wp2_with fail
              refine (HO1.out _).mono ?_
              rintro e w' ⟨rfl, rfl⟩
              go_wp2_with fail
              refine (HO2.out _).mono ?_
              rintro e w' ⟨rfl, rfl⟩
              go_wp2_with fail
              go_meet
              exact ⟨by rw [← HO0.out]; rfl, rfl⟩
        case rest =>
          obtain ⟨rfl, rfl⟩ := hcut
          clear HO0 HO1 HO2
          go_wp2
          go_loopw [6, 7] (fun ok i wr => ∃ k : Nat, i = .int .i64 (k : Int) ∧ ok = .bool (ok0 && (List.range k).all (chkE M s)) ∧ k ≤ M.events.length ∧ Hid (Below wc.heap.size wc wr)) (fun _ i _ => M.events.length - (intOf i).toNat)
          case atStart => exact ⟨0, rfl, by simp, Nat.zero_le _, Below.refl _ _⟩
          case round =>
            obtain ⟨k, rfl, rfl, hk, HB3⟩ := hrel
            clear c0 c1 c2 c3 c4 c5 c6 c7 c8 c9 d0 d1 d2 d3 d4
            obtain ⟨o, ho⟩ : ∃ o, (ok0 && (List.range k).all (chkE M s)) = o := ⟨_, rfl⟩
            have HO := Lib.hid ho
            rw [ho]
            clear ho
            obtain ⟨⟨c0, c1, c2, c3, c4, c5, c6, c7, c8, c9⟩, d0, d1, d2, d3, d4⟩ := HF.out _ HB3.out
            rcases Nat.lt_or_ge k M.events.length with hlt | hge
            · obtain ⟨x, hx⟩ : ∃ x, M.events[k]? = some x := ⟨_, List.getElem?_eq_getElem hlt⟩
              obtain ⟨be, oe, ke, ai, ki, hve, hbe, -, g0, g1, g2, g3, g4⟩ := eventRow (HM.out.below HB3.out).events hx
              obtain ⟨dv, hd⟩ : ∃ x, s.did[k]? = some x := ⟨_, List.getElem?_eq_getElem (by rw [HE2.out]; exact hlt)⟩
              obtain ⟨cv, hc⟩ : ∃ x, s.cnt[k]? = some x := ⟨_, List.getElem?_eq_getElem (by rw [HE3.out]; exact hlt)⟩
              have hkz := ltI hlt
              have hkd : (k : Int) < (s.did.length : Int) := by rw [HE2.out]; exact hkz
              have hkc : (k : Int) < (s.cnt.length : Int) := by rw [HE3.out]; exact hkz
              have hz : (0 : Int) ≤ (k : Int) := Int.natCast_nonneg _
              obtain ⟨bd, od, kd, hv1, hl1, f1⟩ := (HS.out.below HB3.out).did.int hd
              obtain ⟨bc, oc, kc, hv2, hl2, f2⟩ := (HS.out.below HB3.out).cnt.int hc
              simp only [Value.slice.injEq, true_and] at hve hv1 hv2
              have ha := hve.1
              have hx1 := hv1.1
              have hx2 := hv2.1
              have HX := Lib.hid (chkE_of hx hd hc)
              have HO4' := Lib.hid (fun V => rwithin_any dv M.users.length V (HOK.out.did dv (List.mem_of_getElem? hd)))
              have HSF : Hid (∀ V, Below wr.heap.size wr V → (MdB V w.heap.size q M ∧ StB V W1.heap.size r s) ∧ V.cell? ⟨be, oe + k * 5 + 4, none⟩ = some (.int .i64 x.times) ∧ V.cell? ⟨bd, od + k, none⟩ = some (.int .i64 dv) ∧ V.cell? ⟨bc, oc + k, none⟩ = some (.int .i64 cv)) := fun V hV => by
                have hm2 := HF.out V (HB3.out.trans (hV.mono HB3.out.size))
                exact ⟨hm2, (hV.cell (p := ⟨be, oe + k * 5 + 4, none⟩) hbe).trans g4, (hV.cell (p := ⟨bd, od + k, none⟩) hl1).trans f1, (hV.cell (p := ⟨bc, oc + k, none⟩) hl2).trans f2⟩
              have HSZ := Lib.hid HB3.out.size
              clear hx hd hc hve hv1 hv2 hl1 hl2 f1 f2 hbe g0 g1 g2 g3 g4
              cases o
              · skip
                have hbz : Below wr.heap.size wr wr.drew := (Below.refl _ _).drew
                clear c0 c1 c2 c3 c4 c5 c6 c7 c8 c9 d0 d1 d2 d3 d4
                go_upto_region 8 with fail
                refine startH (S := fun V => (MdB V w.heap.size q M ∧ StB V W1.heap.size r s) ∧ V.cell? ⟨be, oe + k * 5 + 4, none⟩ = some (.int .i64 x.times) ∧ V.cell? ⟨bd, od + k, none⟩ = some (.int .i64 dv) ∧ V.cell? ⟨bc, oc + k, none⟩ = some (.int .i64 cv)) (by kernel_rfl) (HSF.out _ hbz) (fun hHeld => ?_)
                refine takesH [0, 1, 2, 3, 4, 5, 6, 7, 8, 9, 10, 11, 12, 13, 14, 15, 16, 17, 18, 19, 20, 21, 22, 23, 24, 25, 26, 27, 28, 29, 30, 31, 32, 33, 34] (by kernel_rfl) (fun _ _ d _ _ h => by cases d <;> exact h) (by kernel_rfl) (by kernel_rfl) (by assumption) ?_
                repeat (first
                  | (refine TakeSeq.cons (v := ?_) rfl (by rfl) ?_ ?_
                     rotate_left
                     · ((intro w hSw; unfold MdB StB at hSw; go_simp) <;> (try with_reducible rfl))
                     (try go_simp))
                  | (refine TakeSeq.skip rfl (by rfl) ?_; (try go_simp)))
                refine TakeSeq.nil ?_
                refine doneH (by kernel_rfl) ?_
                go_wp2
                (try rw [← ha])
                (try rw [← hx1])
                (try rw [← hx2])
                go_roundw
                case rel => exact ⟨k + 1, by go_num, by rw [allR_succ, ← Bool.and_assoc, HO.out]; rfl, hlt, HB3.out.trans (hbz.mono HSZ.out)⟩
                case measure => simp [intOf]; omega
              · cases t1 : ofN dv M.users.length
                · rw [t1] at HX
                  have HO4 : Hid (∀ V, Calls Tryz.prog 74 #[.int .i64 dv, .int .i64 M.users.length] V fun e w' => e = .returned (.bool false) ∧ V = w') := fun V => by have := HO4'.out V; rwa [t1] at this
                  skip
                  clear t1
                  have hbz : Below wr.heap.size wr wr.drew := (Below.refl _ _).drew
                  clear c0 c1 c2 c3 c4 c5 c6 c7 c8 c9 d0 d1 d2 d3 d4
                  go_upto_region 8 with fail
                  refine startH (S := fun V => (MdB V w.heap.size q M ∧ StB V W1.heap.size r s) ∧ V.cell? ⟨be, oe + k * 5 + 4, none⟩ = some (.int .i64 x.times) ∧ V.cell? ⟨bd, od + k, none⟩ = some (.int .i64 dv) ∧ V.cell? ⟨bc, oc + k, none⟩ = some (.int .i64 cv)) (by kernel_rfl) (HSF.out _ hbz) (fun hHeld => ?_)
                  refine takesH [0, 1, 2, 3, 4, 5, 6, 7, 8, 9] (by kernel_rfl) (fun _ _ d _ _ h => by cases d <;> exact h) (by kernel_rfl) (by kernel_rfl) (by assumption) ?_
                  repeat (first
                    | (refine TakeSeq.cons (v := ?_) rfl (by rfl) ?_ ?_
                       rotate_left
                       · ((intro w hSw; unfold MdB StB at hSw; go_simp) <;> (try with_reducible rfl))
                       (try go_simp))
                    | (refine TakeSeq.skip rfl (by rfl) ?_; (try go_simp)))
                  refine TakeSeq.nil ?_
                  refine callH 10 (by kernel_rfl) (by kernel_rfl) rfl (by rfl) ?_
                  intro K hK
                  go_simp
                  go_at_call 74
                  with_reducible refine (HO4.out _).mono ?_
                  rintro e w5 ⟨rfl, rfl⟩
                  refine hK.out _ _ (HSF.out _ hbz) (fun hHeld => ?_)
                  clear hK K
                  (try go_simp)
                  refine takesH [11, 12, 13, 14, 15, 16, 17, 18, 19, 20, 21, 22, 23, 24, 25, 26, 27, 28, 29, 30, 31, 32, 33, 34] (by kernel_rfl) (fun _ _ d _ _ h => by cases d <;> exact h) (by kernel_rfl) (by kernel_rfl) (by assumption) ?_
                  repeat (first
                    | (refine TakeSeq.cons (v := ?_) rfl (by rfl) ?_ ?_
                       rotate_left
                       · ((intro w hSw; unfold MdB StB at hSw; go_simp) <;> (try with_reducible rfl))
                       (try go_simp))
                    | (refine TakeSeq.skip rfl (by rfl) ?_; (try go_simp)))
                  refine TakeSeq.nil ?_
                  refine doneH (by kernel_rfl) ?_
                  go_wp2
                  (try rw [← ha])
                  (try rw [← hx1])
                  (try rw [← hx2])
                  go_roundw
                  case rel => exact ⟨k + 1, by go_num, by rw [ok_next HO.out HX.out]; rfl, hlt, HB3.out.trans (hbz.mono HSZ.out)⟩
                  case measure => simp [intOf]; omega
                · rcases (show cv < 0 ∨ (0 ≤ cv ∧ x.times < cv) ∨ (0 ≤ cv ∧ cv ≤ x.times) by omega) with p | p | p
                  · rw [t1, decide_eq_false (show ¬ 0 ≤ cv by omega)] at HX
                    have HO4 : Hid (∀ V, Calls Tryz.prog 74 #[.int .i64 dv, .int .i64 M.users.length] V fun e w' => e = .returned (.bool true) ∧ V = w') := fun V => by have := HO4'.out V; rwa [t1] at this
                    have hd1 : decide ((0 : Int) ≤ cv) = false := decide_eq_false (by omega)
                    clear t1 p
                    have hbz : Below wr.heap.size wr wr.drew := (Below.refl _ _).drew
                    clear c0 c1 c2 c3 c4 c5 c6 c7 c8 c9 d0 d1 d2 d3 d4
                    go_upto_region 8 with fail
                    refine startH (S := fun V => (MdB V w.heap.size q M ∧ StB V W1.heap.size r s) ∧ V.cell? ⟨be, oe + k * 5 + 4, none⟩ = some (.int .i64 x.times) ∧ V.cell? ⟨bd, od + k, none⟩ = some (.int .i64 dv) ∧ V.cell? ⟨bc, oc + k, none⟩ = some (.int .i64 cv)) (by kernel_rfl) (HSF.out _ hbz) (fun hHeld => ?_)
                    refine takesH [0, 1, 2, 3, 4, 5, 6, 7, 8, 9] (by kernel_rfl) (fun _ _ d _ _ h => by cases d <;> exact h) (by kernel_rfl) (by kernel_rfl) (by assumption) ?_
                    repeat (first
                      | (refine TakeSeq.cons (v := ?_) rfl (by rfl) ?_ ?_
                         rotate_left
                         · ((intro w hSw; unfold MdB StB at hSw; go_simp) <;> (try with_reducible rfl))
                         (try rw [hd1])
                         (try go_simp))
                      | (refine TakeSeq.skip rfl (by rfl) ?_; (try go_simp)))
                    refine TakeSeq.nil ?_
                    refine callH 10 (by kernel_rfl) (by kernel_rfl) rfl (by rfl) ?_
                    intro K hK
                    go_simp
                    go_at_call 74
                    with_reducible refine (HO4.out _).mono ?_
                    rintro e w5 ⟨rfl, rfl⟩
                    refine hK.out _ _ (HSF.out _ hbz) (fun hHeld => ?_)
                    clear hK K
                    (try go_simp)
                    refine takesH [11, 12, 13, 14, 15, 16, 17, 18, 19, 20, 21, 22, 23, 24, 25, 26, 27, 28, 29, 30, 31, 32, 33, 34] (by kernel_rfl) (fun _ _ d _ _ h => by cases d <;> exact h) (by kernel_rfl) (by kernel_rfl) (by assumption) ?_
                    repeat (first
                      | (refine TakeSeq.cons (v := ?_) rfl (by rfl) ?_ ?_
                         rotate_left
                         · ((intro w hSw; unfold MdB StB at hSw; go_simp) <;> (try with_reducible rfl))
                         (try rw [hd1])
                         (try go_simp))
                      | (refine TakeSeq.skip rfl (by rfl) ?_; (try go_simp)))
                    refine TakeSeq.nil ?_
                    refine doneH (by kernel_rfl) ?_
                    go_wp2
                    (try rw [← ha])
                    (try rw [← hx1])
                    (try rw [← hx2])
                    go_roundw
                    case rel => exact ⟨k + 1, by go_num, by rw [ok_next HO.out HX.out]; rfl, hlt, HB3.out.trans (hbz.mono HSZ.out)⟩
                    case measure => simp [intOf]; omega
                  · rw [t1, decide_eq_true p.1, decide_eq_false (show ¬ cv ≤ x.times by omega)] at HX
                    have HO4 : Hid (∀ V, Calls Tryz.prog 74 #[.int .i64 dv, .int .i64 M.users.length] V fun e w' => e = .returned (.bool true) ∧ V = w') := fun V => by have := HO4'.out V; rwa [t1] at this
                    have hd1 : decide ((0 : Int) ≤ cv) = true := decide_eq_true p.1
                    have hd2 : decide (cv ≤ x.times) = false := decide_eq_false (by omega)
                    clear t1 p
                    have hbz : Below wr.heap.size wr wr.drew := (Below.refl _ _).drew
                    clear c0 c1 c2 c3 c4 c5 c6 c7 c8 c9 d0 d1 d2 d3 d4
                    go_upto_region 8 with fail
                    refine startH (S := fun V => (MdB V w.heap.size q M ∧ StB V W1.heap.size r s) ∧ V.cell? ⟨be, oe + k * 5 + 4, none⟩ = some (.int .i64 x.times) ∧ V.cell? ⟨bd, od + k, none⟩ = some (.int .i64 dv) ∧ V.cell? ⟨bc, oc + k, none⟩ = some (.int .i64 cv)) (by kernel_rfl) (HSF.out _ hbz) (fun hHeld => ?_)
                    refine takesH [0, 1, 2, 3, 4, 5, 6, 7, 8, 9] (by kernel_rfl) (fun _ _ d _ _ h => by cases d <;> exact h) (by kernel_rfl) (by kernel_rfl) (by assumption) ?_
                    repeat (first
                      | (refine TakeSeq.cons (v := ?_) rfl (by rfl) ?_ ?_
                         rotate_left
                         · ((intro w hSw; unfold MdB StB at hSw; go_simp) <;> (try with_reducible rfl))
                         (try rw [hd1])
                         (try rw [hd2])
                         (try go_simp))
                      | (refine TakeSeq.skip rfl (by rfl) ?_; (try go_simp)))
                    refine TakeSeq.nil ?_
                    refine callH 10 (by kernel_rfl) (by kernel_rfl) rfl (by rfl) ?_
                    intro K hK
                    go_simp
                    go_at_call 74
                    with_reducible refine (HO4.out _).mono ?_
                    rintro e w5 ⟨rfl, rfl⟩
                    refine hK.out _ _ (HSF.out _ hbz) (fun hHeld => ?_)
                    clear hK K
                    (try go_simp)
                    refine takesH [11, 12, 13, 14, 15, 16, 17, 18, 19, 20, 21, 22, 23, 24, 25, 26, 27, 28, 29, 30, 31, 32, 33, 34] (by kernel_rfl) (fun _ _ d _ _ h => by cases d <;> exact h) (by kernel_rfl) (by kernel_rfl) (by assumption) ?_
                    repeat (first
                      | (refine TakeSeq.cons (v := ?_) rfl (by rfl) ?_ ?_
                         rotate_left
                         · ((intro w hSw; unfold MdB StB at hSw; go_simp) <;> (try with_reducible rfl))
                         (try rw [hd1])
                         (try rw [hd2])
                         (try go_simp))
                      | (refine TakeSeq.skip rfl (by rfl) ?_; (try go_simp)))
                    refine TakeSeq.nil ?_
                    refine doneH (by kernel_rfl) ?_
                    go_wp2
                    (try rw [← ha])
                    (try rw [← hx1])
                    (try rw [← hx2])
                    go_roundw
                    case rel => exact ⟨k + 1, by go_num, by rw [ok_next HO.out HX.out]; rfl, hlt, HB3.out.trans (hbz.mono HSZ.out)⟩
                    case measure => simp [intOf]; omega
                  · rw [t1, decide_eq_true p.1, decide_eq_true p.2] at HX
                    have HO4 : Hid (∀ V, Calls Tryz.prog 74 #[.int .i64 dv, .int .i64 M.users.length] V fun e w' => e = .returned (.bool true) ∧ V = w') := fun V => by have := HO4'.out V; rwa [t1] at this
                    have hd1 : decide ((0 : Int) ≤ cv) = true := decide_eq_true p.1
                    have hd2 : decide (cv ≤ x.times) = true := decide_eq_true p.2
                    clear t1 p
                    have hbz : Below wr.heap.size wr wr.drew := (Below.refl _ _).drew
                    clear c0 c1 c2 c3 c4 c5 c6 c7 c8 c9 d0 d1 d2 d3 d4
                    go_upto_region 8 with fail
                    refine startH (S := fun V => (MdB V w.heap.size q M ∧ StB V W1.heap.size r s) ∧ V.cell? ⟨be, oe + k * 5 + 4, none⟩ = some (.int .i64 x.times) ∧ V.cell? ⟨bd, od + k, none⟩ = some (.int .i64 dv) ∧ V.cell? ⟨bc, oc + k, none⟩ = some (.int .i64 cv)) (by kernel_rfl) (HSF.out _ hbz) (fun hHeld => ?_)
                    refine takesH [0, 1, 2, 3, 4, 5, 6, 7, 8, 9] (by kernel_rfl) (fun _ _ d _ _ h => by cases d <;> exact h) (by kernel_rfl) (by kernel_rfl) (by assumption) ?_
                    repeat (first
                      | (refine TakeSeq.cons (v := ?_) rfl (by rfl) ?_ ?_
                         rotate_left
                         · ((intro w hSw; unfold MdB StB at hSw; go_simp) <;> (try with_reducible rfl))
                         (try rw [hd1])
                         (try rw [hd2])
                         (try go_simp))
                      | (refine TakeSeq.skip rfl (by rfl) ?_; (try go_simp)))
                    refine TakeSeq.nil ?_
                    refine callH 10 (by kernel_rfl) (by kernel_rfl) rfl (by rfl) ?_
                    intro K hK
                    go_simp
                    go_at_call 74
                    with_reducible refine (HO4.out _).mono ?_
                    rintro e w5 ⟨rfl, rfl⟩
                    refine hK.out _ _ (HSF.out _ hbz) (fun hHeld => ?_)
                    clear hK K
                    (try go_simp)
                    refine takesH [11, 12, 13, 14, 15, 16, 17, 18, 19, 20, 21, 22, 23, 24, 25, 26, 27, 28, 29, 30, 31, 32, 33, 34] (by kernel_rfl) (fun _ _ d _ _ h => by cases d <;> exact h) (by kernel_rfl) (by kernel_rfl) (by assumption) ?_
                    repeat (first
                      | (refine TakeSeq.cons (v := ?_) rfl (by rfl) ?_ ?_
                         rotate_left
                         · ((intro w hSw; unfold MdB StB at hSw; go_simp) <;> (try with_reducible rfl))
                         (try rw [hd1])
                         (try rw [hd2])
                         (try go_simp))
                      | (refine TakeSeq.skip rfl (by rfl) ?_; (try go_simp)))
                    refine TakeSeq.nil ?_
                    refine doneH (by kernel_rfl) ?_
                    go_wp2
                    (try rw [← ha])
                    (try rw [← hx1])
                    (try rw [← hx2])
                    go_roundw
                    case rel => exact ⟨k + 1, by go_num, by rw [ok_next HO.out HX.out]; rfl, hlt, HB3.out.trans (hbz.mono HSZ.out)⟩
                    case measure => simp [intOf]; omega
            · have hkn : k = M.events.length := by omega
              have HRT : Hid (R = o) := by unfold Hid; rw [HC.out, ← HO.out, hkn]
              have hge' := nltI (Nat.not_lt.2 hge)
              clear hkn
              go_wp2
              go_ret
              exact ⟨ret_bool HRT.out.symm, HB.out.trans (HB3.out.mono HB.out.size)⟩
      · have HR : Hid (chkS M s = false) := by unfold Hid chkS chkL; rw [decide_eq_false e3]; simp
        have b3 : ((s.cnt.length : Int) != (M.events.length : Int)) = true := by simp; omega
        rw [HR.out]
        clear e1 e2 e3
        go_enter Tryz.func62, Tryz.ntmps62
        go_wp2
        go_ret
        exact ⟨rfl, HB.out⟩
    · have HR : Hid (chkS M s = false) := by unfold Hid chkS chkL; rw [decide_eq_false e2]; simp
      have b2 : ((s.did.length : Int) != (M.events.length : Int)) = true := by simp; omega
      rw [HR.out]
      clear e1 e2
      go_enter Tryz.func62, Tryz.ntmps62
      go_wp2
      go_ret
      exact ⟨rfl, HB.out⟩
  · have HR : Hid (chkS M s = false) := by unfold Hid chkS chkL; rw [decide_eq_false e1]; simp
    have b1 : ((s.vals.length : Int) != (M.attrs.length : Int)) = true := by simp; omega
    rw [HR.out]
    clear e1
    go_enter Tryz.func62, Tryz.ntmps62
    go_wp2
    go_ret
    exact ⟨rfl, HB.out⟩
end Go.Proofs.YtadjnfpomjopkaaGreat

namespace Go.Proofs.YtadjnfpomjopkaaGreat
open Go.RowKit

theorem rhasN {x : Int} (h : N64 x) (i : Int) (V : World) : Calls Tryz.prog 32 #[.int .i64 x, .int .i64 i] V fun e w' => e = .returned (.bool (hasB x i)) ∧ V = w' := rhas_any x i V h.1 h.2
theorem hasB_zero (i : Int) : hasB 0 i = false := by
  unfold hasB hasN
  split
  · simp
  · rfl
theorem hasB_neg (x : Int) {i : Int} (h : i < 0) : hasB x i = false := by unfold hasB; rw [if_neg (by omega)]
theorem atZ_in {l : List Int} {k : Nat} {x : Int} (h : l[k]? = some x) : atZ l (k : Int) = x := by
  have := (List.getElem?_eq_some_iff.1 h).1
  unfold atZ; rw [if_pos (inM_iff.2 ⟨by omega, by omega⟩), Int.toNat_natCast, List.getD_eq_getElem?_getD, h]; rfl
theorem atZ_out {l : List Int} {i : Int} (h : inM i l.length = false) : atZ l i = 0 := by unfold atZ; rw [h]; rfl

set_option maxRecDepth 100000 in
set_option maxHeartbeats 2000000 in
theorem rcomplQ {w : World} {q : Mem} {M : Mdl} {r : Stm} {s : Sta} (hm : MdQ w q M) (hs : StQ w r s) (hk : SOK s) : Calls Tryz.prog 35 #[.agg (mdC q M), .agg (stC r s)] w (Ret w (.bool (complS M s))) := by
  have hmx := hm.miles.max
  obtain ⟨W1, W0, h1, h2, HB, HM, HS, HF⟩ := boxMS hm hs
  have HOK := Lib.hid hk
  have HB0 : Hid (Below W0.heap.size W0 W0) := Below.refl _ _
  have HHA : Hid (∀ (i : Int) V, Calls Tryz.prog 32 #[.int .i64 s.dne, .int .i64 i] V fun e w' => e = .returned (.bool (hasB s.dne i)) ∧ V = w') := fun i V => rhasN hk.dne i V
  unfold MdB StB at HF
  unfold mdC at h1
  unfold stC at h2
  unfold mdC stC
  clear hm hs hk
  obtain ⟨⟨c0, c1, c2, c3, c4, c5, c6, c7, c8, c9⟩, d0, d1, d2, d3, d4⟩ := HF.out _ HB0.out
  obtain ⟨R, hR⟩ : ∃ R, complS M s = R := ⟨_, rfl⟩
  have HR := Lib.hid hR
  rw [hR]
  clear hR
  go_enter Tryz.func35, Tryz.ntmps35
  go_wp2
  go_loopw [5] (fun i wr => ∃ k : Nat, i = .int .i64 (k : Int) ∧ k ≤ M.miles.length ∧ Hid ((List.range k).any (cmpF M s) = false) ∧ wr = W0) (fun i _ => M.miles.length - (intOf i).toNat)
  case atStart => exact ⟨0, rfl, Nat.zero_le _, rfl, rfl⟩
  case round =>
    obtain ⟨k, rfl, hk, HALL, rfl⟩ := hrel
    rcases Nat.lt_or_ge k M.miles.length with hlt | hge
    · obtain ⟨x, hx⟩ : ∃ x, M.miles[k]? = some x := ⟨_, List.getElem?_eq_getElem hlt⟩
      obtain ⟨b, off, cap, ai, ki, hv, hbl, hin, a0, a1, a2, a3, a4⟩ := mileRow HM.out.miles hx
      simp only [Value.slice.injEq] at hv
      have ha := hv.1
      have hkz := ltI hlt
      have HCF := Lib.hid (cmpF_of (s := s) hx)
      have HHX := Lib.hid (HHA.out (k : Int) wr)
      obtain ⟨fi, hfi⟩ : ∃ fi, x.final = fi := ⟨_, rfl⟩
      obtain ⟨t, ht⟩ : ∃ t, hasB s.dne (k : Int) = t := ⟨_, rfl⟩
      rw [hfi] at a4 HCF
      rw [ht] at HCF HHX
      clear hfi ht hx hv hin
      cases fi
      · go_wp2
        (try rw [← ha])
        go_roundw
        case rel => exact ⟨k + 1, by go_num, hlt, anyR_miss HALL.out HCF.out, trivial⟩
        case measure => simp [intOf]; omega
      · cases t
        · go_wp2_with fail
          refine HHX.out.mono ?_
          rintro e w9 ⟨rfl, rfl⟩
          go_wp2
          (try rw [← ha])
          go_roundw
          case rel => exact ⟨k + 1, by go_num, hlt, anyR_miss HALL.out HCF.out, trivial⟩
          case measure => simp [intOf]; omega
        · have HRT : Hid (R = true) := by unfold Hid; rw [← HR.out]; exact anyR_hit hlt HCF.out
          go_wp2_with fail
          refine HHX.out.mono ?_
          rintro e w9 ⟨rfl, rfl⟩
          go_wp2
          go_ret
          exact ⟨ret_bool HRT.out.symm, HB.out⟩
    · have hkn : k = M.miles.length := by omega
      have HRT : Hid (R = false) := by unfold Hid; rw [← HR.out, ← HALL.out, hkn]; rfl
      have hge' := nltI (Nat.not_lt.2 hge)
      clear hkn
      go_wp2
      go_ret
      exact ⟨ret_bool HRT.out.symm, HB.out⟩

set_option maxRecDepth 100000 in
set_option maxHeartbeats 2000000 in
theorem rhadQ {w : World} {r : Stm} {s : Sta} (hs : StQ w r s) (hk : SOK s) (e u : Int) : Calls Tryz.prog 34 #[.agg (stC r s), .int .i64 e, .int .i64 u] w (Ret w (.bool (hadS s e u))) := by
  obtain ⟨W1, h1, HB, HS, HF⟩ := boxS hs
  have HOK := Lib.hid hk
  have HIN := Lib.hid (rin17 e s.did.length W1)
  have hF := HF.out _ (Below.refl _ _)
  unfold StB at hF
  unfold stC at h1
  unfold stC
  obtain ⟨d0, d1, d2, d3, d4⟩ := hF
  clear hs hk HF
  cases i1 : inM e s.did.length
  · have HR : Hid (hadS s e u = false) := by unfold Hid hadS; rw [atZ_out i1, hasB_zero]
    rw [i1] at HIN
    rw [HR.out]
    clear i1 HR
    go_enter Tryz.func34, Tryz.ntmps34
    go_wp2_with fail
    refine HIN.out.mono ?_
    rintro e' w9 ⟨rfl, rfl⟩
    go_wp2
    go_ret
    exact ⟨rfl, HB.out⟩
  · obtain ⟨k, rfl, hkl⟩ := inM_nat i1
    rw [i1] at HIN
    obtain ⟨x, hx⟩ : ∃ x, s.did[k]? = some x := ⟨_, List.getElem?_eq_getElem hkl⟩
    obtain ⟨b, off, c, hv, hbl, hc⟩ := HS.out.did.int hx
    simp only [Value.slice.injEq, true_and] at hv
    have ha := hv.1
    have hk0 : (0 : Int) ≤ (k : Int) := Int.natCast_nonneg _
    have hk1 := ltI hkl
    have HR : Hid (hadS s (k : Int) u = hasB x u) := by unfold Hid hadS; rw [atZ_in hx]
    have HHA := Lib.hid (rhasN (HOK.out.did x (List.mem_of_getElem? hx)) u W1)
    rw [HR.out]
    rw [ha] at h1 d3 ⊢
    clear i1 hx hv HR hkl
    go_enter Tryz.func34, Tryz.ntmps34
    go_wp2_with fail
    refine HIN.out.mono ?_
    rintro e' w9 ⟨rfl, rfl⟩
    go_wp2_with fail
    refine HHA.out.mono ?_
    rintro e' w9 ⟨rfl, rfl⟩
    go_wp2
    go_ret
    exact ⟨rfl, HB.out⟩
end Go.Proofs.YtadjnfpomjopkaaGreat
