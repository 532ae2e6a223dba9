/- bstep: above, Ready, Fires (printed by gen_bs2.py). Plain: closing a stage, undoing its milestones, one number behind the other. bstep: Fires (printed by gen_bs3.py). Fire: what it needs: a block that turns while all else stays; an append in a region that is walked by hand. -/
import Derived.Test.YtadjnfpomjopkaaGreatSm16
import Derived.Test.YtadjnfpomjopkaaGreatSm05
import Derived.Laws.AppendOwn
import Derived.OneCell

namespace Go.Proofs.YtadjnfpomjopkaaGreat
open Go.RowKit

set_option maxRecDepth 100000 in
set_option maxHeartbeats 2000000 in
theorem aboveQ {w : World} {q : Mem} {M : Mdl} {r : Stm} {s : Sta} (hm : MdQ w q M) (hs : StQ w r s) (st : Int) (hst : inM st M.stages.length = true) :
    Calls Tryz.prog 97 #[.agg (mdC q M), .agg (stC r s), .int .i64 st] w (Ret w (.bool (abvS M s st))) := by
  obtain ⟨k, rfl, hk⟩ := inM_nat hst
  obtain ⟨x, hx⟩ : ∃ x, M.stages[k]? = some x := ⟨_, List.getElem?_eq_getElem hk⟩
  obtain ⟨b, off, cap, hv, hbl, g0, g1⟩ := stageRow hm.stages hx
  simp only [Value.slice.injEq] at hv
  have ha := hv.1
  clear hv
  obtain ⟨W1, W, h1, h2, HB, HM, HS, HF⟩ := boxMS hm hs
  replace g1 := (HB.out.cell (p := ⟨b, off + k * 2 + 1, none⟩) hbl).trans g1
  have HA : Hid (abvS M s (k : Int) = (decide (x.2 = -1) || (decide (x.2 < (M.stages.length : Int)) && hasB s.opn x.2))) := by unfold Hid abvS; rw [Int.toNat_natCast, stgP_of hx]
  unfold MdB StB at HF
  unfold mdC at h1
  unfold stC at h2
  unfold mdC stC
  rw [ha] at h1
  have hkz := ltI hk
  have hk0 : (0 : Int) ≤ (k : Int) := Int.natCast_nonneg _
  clear hm hs g0 hx hst
  obtain ⟨⟨c0, c1, c2, c3, c4, c5, c6, c7, c8, c9⟩, d0, d1, d2, d3, d4⟩ := HF.out _ (Below.refl _ _)
  rcases (show x.2 = -1 ∨ (x.2 ≠ -1 ∧ (M.stages.length : Int) ≤ x.2) ∨ (x.2 ≠ -1 ∧ x.2 < (M.stages.length : Int)) by omega) with p | p | p
  · have HR : Hid (abvS M s (k : Int) = true) := by unfold Hid; rw [HA.out, decide_eq_true p]; rfl
    rw [HR.out]
    have hb : (x.2 == -1) = true := by simp [p]
    clear p
    go_enter Tryz.func97, Tryz.ntmps97
    go_wp2
    go_ret
    exact ⟨rfl, HB.out⟩
  · have HR : Hid (abvS M s (k : Int) = false) := by unfold Hid; rw [HA.out, decide_eq_false p.1, decide_eq_false (by omega)]; rfl
    rw [HR.out]
    have hb : (x.2 == -1) = false := by rw [beq_eq_false_iff_ne]; exact p.1
    have hd : decide (x.2 < (M.stages.length : Int)) = false := decide_eq_false (by omega)
    clear p
    go_enter Tryz.func97, Tryz.ntmps97
    go_wp2
    go_ret
    exact ⟨rfl, HB.out⟩
  · have HR : Hid (abvS M s (k : Int) = hasB s.opn x.2) := by unfold Hid; rw [HA.out, decide_eq_false p.1, decide_eq_true p.2]; rfl
    rw [HR.out]
    have hb : (x.2 == -1) = false := by rw [beq_eq_false_iff_ne]; exact p.1
    have hd : x.2 < (M.stages.length : Int) := p.2
    clear p
    go_enter Tryz.func97, Tryz.ntmps97
    go_wp2_with (go_at_call 96; refine (has_any _ _ _).mono ?_; rintro o w4 ⟨rfl, rfl⟩)
    go_ret
    exact ⟨rfl, HB.out⟩

set_option maxRecDepth 100000 in
set_option maxHeartbeats 4000000 in
theorem readyQ {w : World} {q : Mem} {M : Mdl} {r : Stm} {s : Sta} (hm : MdQ w q M) (hs : StQ w r s) (x : Bool × Int) (ev : Int) :
    Calls Tryz.prog 85 #[.agg (mdC q M), .agg (stC r s), .agg #[.bool x.1, .int .i64 x.2], .int .i64 ev] w (Ret w (.bool (readyS M s x ev))) := by
  obtain ⟨xb, xn⟩ := x
  dsimp only
  obtain ⟨W1, W2, h1, h2, HB2, HM, HS, HF⟩ := boxMS hm hs
  obtain ⟨W3, h3, hb3, x3⟩ := box1 W2 #[.bool xb, .int .i64 xn] 118
  have HB3 := Lib.hid hb3
  have HX3 := Lib.hid x3
  have HFI := Lib.hid (findQ (HM.out.below hb3) (xb, xn))
  have HABV : Hid (∀ V st, Below W2.heap.size W2 V → inM st M.stages.length = true → Calls Tryz.prog 97 #[.agg (mdC q M), .agg (stC r s), .int .i64 st] V (Ret V (.bool (abvS M s st)))) := fun V st hV h => aboveQ (HM.out.below hV) (HS.out.below hV) st h
  unfold mdC at h1 HFI HABV
  unfold stC at h2 HABV
  unfold mdC stC
  dsimp only at HFI
  have HF0 := HF
  unfold MdB StB at HF
  clear hm hs hb3 x3
  obtain ⟨⟨c0, c1, c2, c3, c4, c5, c6, c7, c8, c9⟩, -⟩ := HF.out _ HB3.out
  have y0 := HX3.out.cell (i := 0) rfl
  have y1 := HX3.out.cell (i := 1) rfl
  go_enter Tryz.func85, Tryz.ntmps85
  go_wp2_with fail
  refine HFI.out.mono ?_
  rintro e0 W4 ⟨⟨v, rfl, hv⟩, hb4⟩
  have HB4 := Lib.hid (HB3.out.trans (hb4.mono HB3.out.size))
  have HX4 := Lib.hid (HX3.out.keep hb4)
  clear c0 c1 c2 c3 c4 c5 c6 c7 c8 c9 y0 y1 hb4
  unfold FindR at hv
  cases hfs : findS M (xb, xn) with
  | none =>
    rw [hfs] at hv
    subst hv
    have HRD : Hid (readyS M s (xb, xn) ev = false) := by unfold Hid readyS; rw [hfs]
    obtain ⟨W5, h5, hb5, x5⟩ := box1 W4 #[.int .i64 0, .int .i64 0, .slice none 0 0, .int .i64 0] 133
    have HB5 := Lib.hid (HB2.out.trans ((HB4.out.trans (hb5.mono HB4.out.size)).mono HB2.out.size))
    obtain ⟨st, hst⟩ : ∃ st : Int, st = 0 := ⟨_, rfl⟩
    obtain ⟨e, he⟩ : ∃ e : Int, e = 0 := ⟨_, rfl⟩
    have HSF : Hid (∀ V, Below W5.heap.size W5 V → (MdB V w.heap.size q M ∧ StB V W1.heap.size r s) ∧ (V.cell? ⟨W2.heap.size, 0, none⟩ = some (.bool xb)) ∧ V.cell? ⟨W4.heap.size, 0, none⟩ = some (.int .i64 st) ∧ V.cell? ⟨W4.heap.size, 1, none⟩ = some (.int .i64 e)) := fun V hV => ⟨HF0.out V ((HB4.out.trans (hb5.mono HB4.out.size)).trans (hV.mono (by have := HB4.out.size; have := hb5.size; omega))), ((HX4.out.keep hb5).keep hV).cell rfl, by rw [hst]; exact (x5.keep hV).cell rfl, by rw [he]; exact (x5.keep hV).cell rfl⟩
    have HOW := Lib.hid h5
    clear hfs x5 hb5 h5 hst he
    go_upto_region 2 with fail
    rw [HOW.out]
    have hbz : Below W5.heap.size W5 W5.drew := (Below.refl _ _).drew
    refine startH (S := fun V => (MdB V w.heap.size q M ∧ StB V W1.heap.size r s) ∧ (V.cell? ⟨W2.heap.size, 0, none⟩ = some (.bool xb)) ∧ V.cell? ⟨W4.heap.size, 0, none⟩ = some (.int .i64 st) ∧ V.cell? ⟨W4.heap.size, 1, none⟩ = some (.int .i64 e)) (by kernel_rfl) (HSF.out _ hbz) (fun hHeld => ?_)
    refine takesH [0, 1, 2, 3, 4, 5, 6, 7, 8, 9, 10, 11, 12, 13, 14, 15, 16, 17, 18, 19, 20, 21, 22] (by kernel_rfl) (fun _ _ d _ _ h => by cases d <;> exact h) (by kernel_rfl) (by kernel_rfl) (by assumption) ?_
    repeat (first
      | (refine TakeSeq.cons (v := ?_) rfl (by rfl) ?_ ?_
         rotate_left
         · ((intro w hSw; unfold MdB StB at hSw; go_simp) <;> (try with_reducible rfl))
         (try go_simp))
      | (refine TakeSeq.skip rfl (by rfl) ?_; (try go_simp)))
    refine TakeSeq.nil ?_
    refine doneH (by kernel_rfl) ?_
    go_wp2
    go_ret
    exact ⟨ret_bool HRD.out.symm, HB5.out.drew⟩
  | some fr =>
    obtain ⟨st, e, c⟩ := fr
    rw [hfs] at hv
    obtain ⟨ai, ki, hrw, hvv⟩ := hv
    subst hvv
    have HRX : Hid (readyS M s (xb, xn) ev = (inM st M.stages.length && (decide (e = -1) || decide (e = ev)) && (hasB s.opn st == xb) && (xb || abvS M s st))) := by unfold Hid readyS; rw [hfs]
    dsimp only
    obtain ⟨mi, hmi⟩ : ∃ mi : Int, (if xb = true then xn else -1) = mi := ⟨_, rfl⟩
    rw [hmi]
    obtain ⟨ok, hok⟩ : ∃ ok, inM st M.stages.length = ok := ⟨_, rfl⟩
    have HOK := Lib.hid hok
    rw [hok]
    rw [hok] at HRX
    obtain ⟨W5, h5, hb5, x5⟩ := box1 W4 #[.int .i64 st, .int .i64 e, .slice ai c.length ki, .int .i64 mi] 133
    have HB45 := Lib.hid (HB4.out.trans (hb5.mono HB4.out.size))
    have HB5 := Lib.hid (HB2.out.trans (HB45.out.mono HB2.out.size))
    have HSF : Hid (∀ V, Below W5.heap.size W5 V → (MdB V w.heap.size q M ∧ StB V W1.heap.size r s) ∧ (V.cell? ⟨W2.heap.size, 0, none⟩ = some (.bool xb)) ∧ V.cell? ⟨W4.heap.size, 0, none⟩ = some (.int .i64 st) ∧ V.cell? ⟨W4.heap.size, 1, none⟩ = some (.int .i64 e)) := fun V hV => ⟨HF0.out V (HB45.out.trans (hV.mono HB45.out.size)), ((HX4.out.keep hb5).keep hV).cell rfl, (x5.keep hV).cell rfl, (x5.keep hV).cell rfl⟩
    have z0 := x5.cell (i := 0) rfl
    have HX5 := Lib.hid x5
    have HY5 := Lib.hid (HX4.out.keep hb5)
    have HOW := Lib.hid h5
    clear hfs hrw hmi hok hb5 x5 h5
    go_upto_region 2 with fail
    rw [HOW.out]
    cases ok
    · have HRD : Hid (readyS M s (xb, xn) ev = false) := by unfold Hid; rw [HRX.out]; rfl
      have hbz : Below W5.heap.size W5 W5.drew := (Below.refl _ _).drew
      refine startH (S := fun V => (MdB V w.heap.size q M ∧ StB V W1.heap.size r s) ∧ (V.cell? ⟨W2.heap.size, 0, none⟩ = some (.bool xb)) ∧ V.cell? ⟨W4.heap.size, 0, none⟩ = some (.int .i64 st) ∧ V.cell? ⟨W4.heap.size, 1, none⟩ = some (.int .i64 e)) (by kernel_rfl) (HSF.out _ hbz) (fun hHeld => ?_)
      refine takesH [0, 1, 2, 3, 4, 5, 6, 7, 8, 9, 10, 11, 12, 13, 14, 15, 16, 17, 18, 19, 20, 21, 22] (by kernel_rfl) (fun _ _ d _ _ h => by cases d <;> exact h) (by kernel_rfl) (by kernel_rfl) (by assumption) ?_
      repeat (first
        | (refine TakeSeq.cons (v := ?_) rfl (by rfl) ?_ ?_
           rotate_left
           · ((intro w hSw; unfold MdB StB at hSw; go_simp) <;> (try with_reducible rfl))
           (try go_simp))
        | (refine TakeSeq.skip rfl (by rfl) ?_; (try go_simp)))
      refine TakeSeq.nil ?_
      refine doneH (by kernel_rfl) ?_
      go_wp2
      go_ret
      exact ⟨ret_bool HRD.out.symm, HB5.out.drew⟩
    · rcases (show (e ≠ -1 ∧ e ≠ ev) ∨ e = -1 ∨ (e ≠ -1 ∧ e = ev) by omega) with p | p | p
      · have HRD : Hid (readyS M s (xb, xn) ev = false) := by unfold Hid; rw [HRX.out, decide_eq_false p.1, decide_eq_false p.2]; rfl
        have hd1 : (e != -1) = true := by simp; exact p.1
        have hd2 : (e != ev) = true := by simp; exact p.2
        clear p
        have hbz : Below W5.heap.size W5 W5.drew := (Below.refl _ _).drew
        refine startH (S := fun V => (MdB V w.heap.size q M ∧ StB V W1.heap.size r s) ∧ (V.cell? ⟨W2.heap.size, 0, none⟩ = some (.bool xb)) ∧ V.cell? ⟨W4.heap.size, 0, none⟩ = some (.int .i64 st) ∧ V.cell? ⟨W4.heap.size, 1, none⟩ = some (.int .i64 e)) (by kernel_rfl) (HSF.out _ hbz) (fun hHeld => ?_)
        refine takesH [0, 1, 2, 3, 4, 5, 6, 7, 8, 9, 10, 11, 12, 13, 14, 15, 16, 17, 18, 19, 20, 21, 22] (by kernel_rfl) (fun _ _ d _ _ h => by cases d <;> exact h) (by kernel_rfl) (by kernel_rfl) (by assumption) ?_
        repeat (first
          | (refine TakeSeq.cons (v := ?_) rfl (by rfl) ?_ ?_
             rotate_left
             · ((intro w hSw; unfold MdB StB at hSw; go_simp) <;> (try with_reducible rfl))
             (try rw [hd1])
             (try rw [hd2])
             (try go_simp))
          | (refine TakeSeq.skip rfl (by rfl) ?_; (try go_simp)))
        refine TakeSeq.nil ?_
        refine doneH (by kernel_rfl) ?_
        go_wp2
        go_ret
        exact ⟨ret_bool HRD.out.symm, HB5.out.drew⟩
      · have HRY : Hid (readyS M s (xb, xn) ev = ((hasB s.opn st == xb) && (xb || abvS M s st))) := by unfold Hid; rw [HRX.out, decide_eq_true p]; rfl
        have hd1 : (e != -1) = false := by simp [p]
        clear p
        have hbz : Below W5.heap.size W5 W5.drew := (Below.refl _ _).drew
        refine startH (S := fun V => (MdB V w.heap.size q M ∧ StB V W1.heap.size r s) ∧ (V.cell? ⟨W2.heap.size, 0, none⟩ = some (.bool xb)) ∧ V.cell? ⟨W4.heap.size, 0, none⟩ = some (.int .i64 st) ∧ V.cell? ⟨W4.heap.size, 1, none⟩ = some (.int .i64 e)) (by kernel_rfl) (HSF.out _ hbz) (fun hHeld => ?_)
        refine takesH [0, 1, 2, 3, 4, 5, 6, 7, 8, 9, 10, 11, 12, 13, 14, 15, 16, 17, 19, 20] (by kernel_rfl) (fun _ _ d _ _ h => by cases d <;> exact h) (by kernel_rfl) (by kernel_rfl) (by assumption) ?_
        repeat (first
          | (refine TakeSeq.cons (v := ?_) rfl (by rfl) ?_ ?_
             rotate_left
             · ((intro w hSw; unfold MdB StB at hSw; go_simp) <;> (try with_reducible rfl))
             (try rw [hd1])
             (try go_simp))
          | (refine TakeSeq.skip rfl (by rfl) ?_; (try go_simp)))
        refine TakeSeq.nil ?_
        refine callH 18 (by kernel_rfl) (by kernel_rfl) rfl (by rfl) ?_
        intro K hK
        go_simp
        go_at_call 96
        with_reducible refine (has_any _ _ _).mono ?_
        rintro o w6 ⟨rfl, rfl⟩
        refine hK.out _ _ (HSF.out _ hbz) (fun hHeld => ?_)
        clear hK K
        (try go_simp)
        refine takesH [21, 22] (by kernel_rfl) (fun _ _ d _ _ h => by cases d <;> exact h) (by kernel_rfl) (by kernel_rfl) (by assumption) ?_
        repeat (first
          | (refine TakeSeq.cons (v := ?_) rfl (by rfl) ?_ ?_
             rotate_left
             · ((intro w hSw; unfold MdB StB at hSw; go_simp) <;> (try with_reducible rfl))
             (try rw [hd1])
             (try go_simp))
          | (refine TakeSeq.skip rfl (by rfl) ?_; (try go_simp)))
        refine TakeSeq.nil ?_
        refine doneH (by kernel_rfl) ?_
        generalize hasB s.opn st = H at HRY ⊢
        have HRZ : ∀ o, abvS M s st = o → Hid (readyS M s (xb, xn) ev = ((H == xb) && (xb || o))) := fun o ho => by unfold Hid; rw [HRY.out, ho]
        obtain ⟨o, ho⟩ : ∃ o, abvS M s st = o := ⟨_, rfl⟩
        have HRW := HRZ o ho
        have HAV := HABV.out W5.drew st HB45.out.drew HOK.out
        have HB5D := HB5.out.drew
        clear HRZ HRY
        rw [ho] at HAV
        replace HAV := Lib.hid HAV
        obtain ⟨⟨c0, c1, c2, c3, c4, c5, c6, c7, c8, c9⟩, d0, d1, d2, d3, d4⟩ := HF.out W5.drew HB45.out.drew
        have y0 := (HY5.out.drew).cell (i := 0) rfl
        have z0 := (HX5.out.drew).cell (i := 0) rfl
        cases H <;> cases xb
        · go_wp2_with fail
          refine HAV.out.mono ?_
          rintro e7 w7 ⟨rfl, hb7⟩
          go_wp2
          go_ret
          exact ⟨ret_bool HRW.out.symm, HB5D.trans (hb7.mono HB5D.size)⟩
        · go_wp2
          go_ret
          exact ⟨ret_bool HRW.out.symm, HB5D⟩
        · go_wp2
          go_ret
          exact ⟨ret_bool HRW.out.symm, HB5D⟩
        · go_wp2
          go_ret
          exact ⟨ret_bool HRW.out.symm, HB5D⟩
      · have HRY : Hid (readyS M s (xb, xn) ev = ((hasB s.opn st == xb) && (xb || abvS M s st))) := by unfold Hid; rw [HRX.out, decide_eq_false p.1, decide_eq_true p.2]; rfl
        have hd1 : (e != -1) = true := by simp; exact p.1
        have hd2 : (e != ev) = false := by simp; exact p.2
        clear p
        have hbz : Below W5.heap.size W5 W5.drew := (Below.refl _ _).drew
        refine startH (S := fun V => (MdB V w.heap.size q M ∧ StB V W1.heap.size r s) ∧ (V.cell? ⟨W2.heap.size, 0, none⟩ = some (.bool xb)) ∧ V.cell? ⟨W4.heap.size, 0, none⟩ = some (.int .i64 st) ∧ V.cell? ⟨W4.heap.size, 1, none⟩ = some (.int .i64 e)) (by kernel_rfl) (HSF.out _ hbz) (fun hHeld => ?_)
        refine takesH [0, 1, 2, 3, 4, 5, 6, 7, 8, 9, 10, 11, 12, 13, 14, 15, 16, 17, 19, 20] (by kernel_rfl) (fun _ _ d _ _ h => by cases d <;> exact h) (by kernel_rfl) (by kernel_rfl) (by assumption) ?_
        repeat (first
          | (refine TakeSeq.cons (v := ?_) rfl (by rfl) ?_ ?_
             rotate_left
             · ((intro w hSw; unfold MdB StB at hSw; go_simp) <;> (try with_reducible rfl))
             (try rw [hd1])
             (try rw [hd2])
             (try go_simp))
          | (refine TakeSeq.skip rfl (by rfl) ?_; (try go_simp)))
        refine TakeSeq.nil ?_
        refine callH 18 (by kernel_rfl) (by kernel_rfl) rfl (by rfl) ?_
        intro K hK
        go_simp
        go_at_call 96
        with_reducible refine (has_any _ _ _).mono ?_
        rintro o w6 ⟨rfl, rfl⟩
        refine hK.out _ _ (HSF.out _ hbz) (fun hHeld => ?_)
        clear hK K
        (try go_simp)
        refine takesH [21, 22] (by kernel_rfl) (fun _ _ d _ _ h => by cases d <;> exact h) (by kernel_rfl) (by kernel_rfl) (by assumption) ?_
        repeat (first
          | (refine TakeSeq.cons (v := ?_) rfl (by rfl) ?_ ?_
             rotate_left
             · ((intro w hSw; unfold MdB StB at hSw; go_simp) <;> (try with_reducible rfl))
             (try rw [hd1])
             (try rw [hd2])
             (try go_simp))
          | (refine TakeSeq.skip rfl (by rfl) ?_; (try go_simp)))
        refine TakeSeq.nil ?_
        refine doneH (by kernel_rfl) ?_
        generalize hasB s.opn st = H at HRY ⊢
        have HRZ : ∀ o, abvS M s st = o → Hid (readyS M s (xb, xn) ev = ((H == xb) && (xb || o))) := fun o ho => by unfold Hid; rw [HRY.out, ho]
        obtain ⟨o, ho⟩ : ∃ o, abvS M s st = o := ⟨_, rfl⟩
        have HRW := HRZ o ho
        have HAV := HABV.out W5.drew st HB45.out.drew HOK.out
        have HB5D := HB5.out.drew
        clear HRZ HRY
        rw [ho] at HAV
        replace HAV := Lib.hid HAV
        obtain ⟨⟨c0, c1, c2, c3, c4, c5, c6, c7, c8, c9⟩, d0, d1, d2, d3, d4⟩ := HF.out W5.drew HB45.out.drew
        have y0 := (HY5.out.drew).cell (i := 0) rfl
        have z0 := (HX5.out.drew).cell (i := 0) rfl
        cases H <;> cases xb
        · go_wp2_with fail
          refine HAV.out.mono ?_
          rintro e7 w7 ⟨rfl, hb7⟩
          go_wp2
          go_ret
          exact ⟨ret_bool HRW.out.symm, HB5D.trans (hb7.mono HB5D.size)⟩
        · go_wp2
          go_ret
          exact ⟨ret_bool HRW.out.symm, HB5D⟩
        · go_wp2
          go_ret
          exact ⟨ret_bool HRW.out.symm, HB5D⟩
        · go_wp2
          go_ret
          exact ⟨ret_bool HRW.out.symm, HB5D⟩
end Go.Proofs.YtadjnfpomjopkaaGreat

namespace Go.Proofs.YtadjnfpomjopkaaGreat
open Go.RowKit

/-- the stages below st, and st -/
def closL (M : Mdl) (st : Int) : List Int := belowN (parL M) st M.stages.length ++ [st]
def closN (M : Mdl) (o st : Int) (k : Nat) : Int := ((closL M st).take k).foldl (fun o i => putZ o i false) o
theorem closN_zero (M : Mdl) (o st : Int) : closN M o st 0 = o := rfl
theorem closN_succ {M : Mdl} {o st x : Int} {k : Nat} (h : (closL M st)[k]? = some x) : closN M o st (k + 1) = putZ (closN M o st k) x false := by
  unfold closN; rw [List.take_add_one, h, List.foldl_append]; rfl
theorem belowN_iff (l : List Int) (st : Int) (n : Nat) (j : Nat) : ((j : Int) ∈ belowN l st n) ↔ (j < n ∧ (j : Int) ≠ st ∧ isUp l st j = true) := by
  unfold belowN
  simp only [List.mem_map, List.mem_filter, List.mem_range, Bool.and_eq_true, decide_eq_true_eq]
  constructor
  · rintro ⟨k, ⟨h1, h2, h3⟩, e⟩
    obtain rfl : k = j := by omega
    exact ⟨h1, h2, h3⟩
  · rintro ⟨h1, h2, h3⟩
    exact ⟨j, ⟨h1, h2, h3⟩, rfl⟩
theorem belowN_nat {l : List Int} {st : Int} {n : Nat} {x : Int} (h : x ∈ belowN l st n) : ∃ j : Nat, x = (j : Int) ∧ j < n := by
  unfold belowN at h
  simp only [List.mem_map, List.mem_filter, List.mem_range] at h
  obtain ⟨k, ⟨h1, -⟩, e⟩ := h
  exact ⟨k, e.symm, h1⟩
theorem closN_all {M : Mdl} (o : Int) {st : Nat} (hM : M.stages.length ≤ 31) (hst : st < M.stages.length) : closN M o (st : Int) (closL M (st : Int)).length = closeZ M o (st : Int) := by
  unfold closN
  rw [List.take_length, foldPut]
  · unfold closeZ
    refine congrArg (fun n : Nat => (n : Int)) (ofB_congr _ _ fun j hj => ?_)
    have e : decide ((j : Int) ∈ closL M (st : Int)) = (decide ((j : Int) = (st : Int)) || (decide (j < M.stages.length) && isUp (parL M) (st : Int) (j : Int))) := by
      rw [Bool.eq_iff_iff]
      simp only [closL, decide_eq_true_eq, Bool.or_eq_true, Bool.and_eq_true, List.mem_append, List.mem_singleton]
      rw [belowN_iff]
      constructor
      · rintro (⟨h1, h2, h3⟩ | h)
        · exact .inr ⟨h1, h3⟩
        · exact .inl h
      · rintro (h | ⟨h1, h2⟩)
        · exact .inr h
        · by_cases h : (j : Int) = (st : Int)
          · exact .inr h
          · exact .inl ⟨h1, h, h2⟩
    rw [e]
  · intro x hx
    simp only [closL, List.mem_append, List.mem_singleton] at hx
    rcases hx with h | h
    · obtain ⟨j, rfl, h1⟩ := belowN_nat h; omega
    · omega
  · exact .inl (by simp [closL])
/-- the milestones up to the k-th undone -/
def undoN (M : Mdl) (d st : Int) (k : Nat) : Int := ((ofB fun j => hasN d j && !(decide (j < k) && decide ((mlG M j).stage = st)) : Nat) : Int)
theorem undoN_zero (M : Mdl) {d : Int} (st : Int) (h : 0 ≤ d ∧ d < 2147483648) : undoN M d st 0 = d := by
  unfold undoN
  refine .trans (congrArg (fun n : Nat => (n : Int)) (ofB_congr _ (hasN d) fun j hj => by simp)) ?_
  rw [← lo_ofB d]; exact lo_id h.1 h.2
theorem undoN_hit {M : Mdl} (d : Int) {st : Int} {k : Nat} (h : (mlG M k).stage = st) : undoN M d st (k + 1) = putZ (undoN M d st k) (k : Int) false := by
  unfold undoN
  rw [putZ_ofB]
  refine congrArg (fun n : Nat => (n : Int)) (ofB_congr _ _ fun j hj => ?_)
  by_cases e : j = k
  · subst e; rw [if_pos rfl]; simp [h]
  · rw [if_neg e]
    have : decide (j < k + 1) = decide (j < k) := decide_eq_decide.2 (by omega)
    rw [this]
theorem undoN_miss {M : Mdl} (d : Int) {st : Int} {k : Nat} (h : (mlG M k).stage ≠ st) : undoN M d st (k + 1) = undoN M d st k := by
  unfold undoN
  refine congrArg (fun n : Nat => (n : Int)) (ofB_congr _ _ fun j hj => ?_)
  by_cases e : j = k
  · subst e; simp [h]
  · have : decide (j < k + 1) = decide (j < k) := decide_eq_decide.2 (by omega)
    rw [this]
theorem undoN_all (M : Mdl) (d st : Int) : undoN M d st M.miles.length = undoZ M d st := rfl
/-- what is done lies within the bits -/
def Bd (s : Sta) : Prop := 0 ≤ s.dne ∧ s.dne < 2147483648
theorem fireS_bd {M : Mdl} {s : Sta} (x : Bool × Int) (h : Bd s) : Bd (fireS M s x) := by
  unfold fireS
  split
  · split
    · split
      · exact putZ_bd _ _ _
      · refine ⟨Int.natCast_nonneg _, ?_⟩
        have h2 : ∀ f : Nat → Bool, ((ofB f : Nat) : Int) < 2147483648 := fun f => by have := ofB_lt f; omega
        exact h2 _
    · exact h
  · exact h
theorem fireS_len (M : Mdl) (s : Sta) (x : Bool × Int) : (fireS M s x).vals = s.vals ∧ (fireS M s x).did = s.did ∧ (fireS M s x).cnt = s.cnt := by
  unfold fireS
  split
  · split
    · split <;> exact ⟨rfl, rfl, rfl⟩
    · exact ⟨rfl, rfl, rfl⟩
  · exact ⟨rfl, rfl, rfl⟩
end Go.Proofs.YtadjnfpomjopkaaGreat

namespace Go.Proofs.YtadjnfpomjopkaaGreat
open Go.RowKit

set_option maxRecDepth 100000 in
set_option maxHeartbeats 2000000 in
theorem firesQ {w : World} {q : Mem} {M : Mdl} {r : Stm} {s : Sta} (hm : MdQ w q M) (hs : StQ w r s) (x : Bool × Int) (ev : Int) (hc : (condS M x).length ≤ 10000) :
    Calls Tryz.prog 75 #[.agg (mdC q M), .agg (stC r s), .agg #[.bool x.1, .int .i64 x.2], .int .i64 ev] w (Ret w (.bool (firesS M s x ev))) := by
  obtain ⟨xb, xn⟩ := x
  dsimp only
  obtain ⟨W1, W2, h1, h2, HB2, HM, HS, HF⟩ := boxMS hm hs
  obtain ⟨W3, h3, hb3, x3⟩ := box1 W2 #[.bool xb, .int .i64 xn] 118
  have HB3 := Lib.hid hb3
  have HX3 := Lib.hid x3
  have HRD := Lib.hid (readyQ (HM.out.below hb3) (HS.out.below hb3) (xb, xn) ev)
  have HFI : Hid (∀ V, Below W2.heap.size W2 V → Calls Tryz.prog 86 #[.agg (mdC q M), .agg #[.bool xb, .int .i64 xn]] V fun e w' => (∃ v, e = .returned v ∧ FindR V M (xb, xn) v) ∧ Below V.heap.size V w') := fun V hV => findQ (HM.out.below hV) (xb, xn)
  have HST : Hid (∀ V, Below W2.heap.size W2 V → StQ V r s) := fun V hV => HS.out.below hV
  have HC := Lib.hid hc
  unfold mdC at h1 HRD HFI
  unfold stC at h2 HRD
  unfold mdC stC
  dsimp only at HRD
  unfold MdB StB at HF
  clear hm hs hb3 x3 hc
  obtain ⟨⟨c0, c1, c2, c3, c4, c5, c6, c7, c8, c9⟩, d0, d1, d2, d3, d4⟩ := HF.out _ HB3.out
  have y0 := HX3.out.cell (i := 0) rfl
  have y1 := HX3.out.cell (i := 1) rfl
  go_enter Tryz.func75, Tryz.ntmps75
  go_wp2_with fail
  refine HRD.out.mono ?_
  rintro e0 W4 ⟨rfl, hb4⟩
  clear c0 c1 c2 c3 c4 c5 c6 c7 c8 c9 y0 y1 d0 d1 d2 d3 d4
  have HB4 := Lib.hid (HB3.out.trans (hb4.mono HB3.out.size))
  have HX4 := Lib.hid (HX3.out.keep hb4)
  clear hb4
  cases hrd : readyS M s (xb, xn) ev
  · have HR : Hid (firesS M s (xb, xn) ev = false) := by unfold Hid firesS; rw [hrd]; rfl
    clear hrd
    go_wp2
    go_ret
    exact ⟨ret_bool HR.out.symm, HB2.out.trans (HB4.out.mono HB2.out.size)⟩
  · have HRZ : Hid (firesS M s (xb, xn) ev = (condO (condS M (xb, xn)) s == some true)) := by unfold Hid firesS; rw [hrd]; rfl
    obtain ⟨⟨c0, c1, c2, c3, c4, c5, c6, c7, c8, c9⟩, d0, d1, d2, d3, d4⟩ := HF.out _ HB4.out
    have y0 := HX4.out.cell (i := 0) rfl
    have y1 := HX4.out.cell (i := 1) rfl
    cases hfs : findS M (xb, xn) with
    | none => unfold readyS at hrd; rw [hfs] at hrd; cases hrd
    | some fr =>
      obtain ⟨st, ev', c⟩ := fr
      have HCS : Hid (condS M (xb, xn) = c) := by unfold Hid condS; rw [hfs]
      have HFS := Lib.hid hfs
      have HFX := Lib.hid (HFI.out _ HB4.out)
      clear hrd hfs
      go_wp2_with fail
      refine HFX.out.mono ?_
      rintro e1 W5 ⟨⟨v, rfl, hv⟩, hb5⟩
      clear c0 c1 c2 c3 c4 c5 c6 c7 c8 c9 y0 y1 d0 d1 d2 d3 d4
      unfold FindR at hv
      rw [HFS.out] at hv
      obtain ⟨ai, ki, hrw, hvv⟩ := hv
      subst hvv
      dsimp only
      obtain ⟨mi, hmi⟩ : ∃ mi : Int, (if xb = true then xn else -1) = mi := ⟨_, rfl⟩
      rw [hmi]
      obtain ⟨ok, hok⟩ : ∃ ok, inM st M.stages.length = ok := ⟨_, rfl⟩
      rw [hok]
      obtain ⟨W6, h6, hb6, x6⟩ := box1 W5 #[.int .i64 st, .int .i64 ev', .slice ai c.length ki, .int .i64 mi] 133
      have hb56 := hb5.trans (hb6.mono hb5.size)
      have HB6 := Lib.hid (HB4.out.trans (hb56.mono HB4.out.size))
      have hcl : c.length ≤ 10000 := by have := HC.out; rw [HCS.out] at this; exact this
      have HHO := Lib.hid (holds_any (HST.out _ HB6.out) (hrw.below instE_keep hb56) hcl)
      obtain ⟨-, d0, d1, d2, d3, d4⟩ := HF.out _ HB6.out
      have z2 := x6.cell (i := 2) rfl
      clear hmi hok hb5 hb6 hb56 x6 hrw hcl
      go_wp2_with fail
      refine HHO.out.mono ?_
      rintro e2 W7 ⟨rfl, hb7⟩
      have HB7 := Lib.hid (HB2.out.trans ((HB6.out.trans (hb7.mono HB6.out.size)).mono HB2.out.size))
      rw [HCS.out] at HRZ
      obtain ⟨o, ho⟩ : ∃ o, condO c s = o := ⟨_, rfl⟩
      rw [ho] at HRZ ⊢
      clear ho hb7
      cases o
      · unfold condV
        go_wp2
        go_ret
        exact ⟨ret_bool HRZ.out.symm, HB7.out⟩
      · unfold condV
        go_wp2
        go_ret
        exact ⟨ret_bool (by rw [HRZ.out]; cases ‹Bool› <;> rfl), HB7.out⟩
end Go.Proofs.YtadjnfpomjopkaaGreat

namespace Go.Proofs.YtadjnfpomjopkaaGreat
open Go.RowKit

theorem Blk.put5 {w : World} {b : Nat} {x0 x1 x2 x3 x4 : Value} {t : TypeId} (h : Blk w b #[x0, x1, x2, x3, x4] t) (a0 a1 a2 a3 a4 : Value) : Blk (((((w.setCell ⟨b, 0, none⟩ a0).setCell ⟨b, 1, none⟩ a1).setCell ⟨b, 2, none⟩ a2).setCell ⟨b, 3, none⟩ a3).setCell ⟨b, 4, none⟩ a4) b #[a0, a1, a2, a3, a4] t := ((((h.store 0 a0).store 1 a1).store 2 a2).store 3 a3).store 4 a4
theorem below_put5 {B : Nat} {w W : World} {g : Nat} (h : Below B w W) (hg : B ≤ g) (a0 a1 a2 a3 a4 : Value) : Below B w (((((W.setCell ⟨g, 0, none⟩ a0).setCell ⟨g, 1, none⟩ a1).setCell ⟨g, 2, none⟩ a2).setCell ⟨g, 3, none⟩ a3).setCell ⟨g, 4, none⟩ a4) := ((((h.setCell (p := ⟨g, 0, none⟩) hg a0).setCell (p := ⟨g, 1, none⟩) hg a1).setCell (p := ⟨g, 2, none⟩) hg a2).setCell (p := ⟨g, 3, none⟩) hg a3).setCell (p := ⟨g, 4, none⟩) hg a4
theorem st_results {V : World} {b i : Nat} {a0 a1 a2 a3 a4 : Value} {tmps : Array Value} (hb : Blk V b #[a0, a1, a2, a3, a4] 44) (h4 : tmps[i]? = some (.pointer (some ⟨b, 0, none⟩))) (F : Func) (hF : F.results = #[.cell i 44]) :
    (results F tmps).run Tryz.prog V = .ok (.agg #[a0, a1, a2, a3, a4]) V := by
  have e0 := hb.cell (i := 0) rfl
  have e1 := hb.cell (i := 1) rfl
  have e2 := hb.cell (i := 2) rfl
  have e3 := hb.cell (i := 3) rfl
  have e4 := hb.cell (i := 4) rfl
  simp [results, hF, go_sem, e0, e1, e2, e3, e4, h4]

/-- block b has turned, and nothing else that was there -/
def Turned (V W : World) (b : Nat) (cs : Array Value) (t : TypeId) : Prop := Blk W b cs t ∧ Below b V W ∧ ∀ g, g ≠ b → g < V.heap.size → W.heap[g]? = V.heap[g]?
theorem Turned.refl {V : World} {b : Nat} {cs : Array Value} {t : TypeId} (h : Blk V b cs t) : Turned V V b cs t := ⟨h, Below.refl _ _, fun _ _ _ => rfl⟩
theorem Turned.blk {V W : World} {b g : Nat} {cs ds : Array Value} {t u : TypeId} (h : Turned V W b cs t) (hg : Blk V g ds u) (hne : g ≠ b) : Blk W g ds u := (h.2.2 g hne hg.lt).trans hg
theorem Turned.cell {V W : World} {b g j : Nat} {cs : Array Value} {t : TypeId} (h : Turned V W b cs t) (hne : g ≠ b) (hl : g < V.heap.size) : W.cell? ⟨g, j, none⟩ = V.cell? ⟨g, j, none⟩ := by
  simp [World.cell?, h.2.2 g hne hl]
theorem Turned.low {V W w : World} {b B : Nat} {cs : Array Value} {t : TypeId} (h : Turned V W b cs t) (hw : Below B w V) (hB : B ≤ b) : Below B w W := hw.trans (h.2.1.mono hB)
theorem Turned.store {V W : World} {b : Nat} {cs : Array Value} {t : TypeId} (h : Turned V W b cs t) (j : Nat) (u : Value) : Turned V (W.setCell ⟨b, j, none⟩ u) b (cs.set! j u) t :=
  ⟨h.1.store j u, h.2.1.setCell (p := ⟨b, j, none⟩) (Nat.le_refl _) u, fun g hne hl => (Below.heap_setCell _ _ _ _ (by show g ≠ b; exact hne)).trans (h.2.2 g hne hl)⟩
theorem Turned.grow {V W W' : World} {b : Nat} {cs : Array Value} {t : TypeId} (h : Turned V W b cs t) (hb : Below W.heap.size W W') : Turned V W' b cs t :=
  ⟨h.1.keep hb, h.2.1.trans (hb.mono (Nat.le_of_lt h.1.lt)), fun g hne hl => (hb.block g (Nat.lt_of_lt_of_le hl h.2.1.size)).trans (h.2.2 g hne hl)⟩

section
variable {P : Program} {ops : Array Oper} {Q : Exit → Act → World → Prop} {S : World → Prop} {md : Region.Mode}
/-- two that may come up -/
theorem callH2 (i j : Nat) {fuel : Nat} {listed : Array Bool} {a : Act} {w : World} {o o' : Oper} (hr : (Region.ready md ops listed == [i, j]) = true) (hf : Nat.ble 1 fuel = true) (ho : ops[i]? = some o) (hw : Region.wanted o (yielded ops a.tmps) = true)
    (ho' : ops[j]? = some o') (hw' : Region.wanted o' (yielded ops a.tmps) = true)
    (h : ∀ K' : Act → World → Prop, Shut (∀ a w, S w → (S w → wpAnyH P md ops Q S (fuel - 1) (listed.setIfInBounds i true) a w) → K' a w) → Oper.wp P o a w K' Q)
    (h' : ∀ K' : Act → World → Prop, Shut (∀ a w, S w → (S w → wpAnyH P md ops Q S (fuel - 1) (listed.setIfInBounds j true) a w) → K' a w) → Oper.wp P o' a w K' Q) : wpAnyH P md ops Q S fuel listed a w := by
  cases fuel with
  | zero => cases hf
  | succ fuel =>
    refine wpAnyH_ready (rs := [i, j]) (by simpa using hr) (by simp) (AllReadyH.cons ho (fun K' hK => ?_) (AllReadyH.cons ho' (fun K' hK => ?_) AllReadyH.nil))
    · rw [if_pos hw]; exact h K' hK
    · rw [if_pos hw']; exact h' K' hK
end
/-- one number more, of a cell that lies wherever -/
theorem appI {o : Oper} {a : Act} {w : World} {K : Act → World → Prop} {Q : Exit → Act → World → Prop} (s x : Operand)
    (ho : o.op = .call { callee := .builtin .append, args := #[s, x], argTypes := #[42, 42] })
    (base : Nat) (v : Value) (n : Nat) (xs : List Value) (hs : a.eval s = v) (hown : w.ownsRow base 3 1 v n xs) (z : Nat) (u : Int)
    (hx : a.eval x = .slice (some ⟨z, 0, none⟩) 1 1) (hc : w.cell? ⟨z, 0, none⟩ = some (.int .i64 u)) (hn : n ≤ 1000) (hbase : base ≤ w.heap.size)
    (h : ∀ v' w', w'.ownsRow base 3 1 v' (n + 1) (xs ++ [.int .i64 u]) → Below base w w' → K (a.put o.dst v') w') : Oper.wp Tryz.prog o a w K Q := by
  obtain ⟨i, hi, hz0, hz1, hz2⟩ := info_parts info_int
  refine wp_append_own w s x 42 ho base 3 i (.int .i64 0) 1 8 (by kernel_rfl) hi hz0 hz1 hz2 rfl (by decide) v n xs hs hown ⟨z, 0, none⟩ 1 1 [.int .i64 u] hx rfl ?_ (by simp [Value.oneCell']) (by unfold maxLen; omega) (by omega) hbase ?_
  · intro j u' hj
    rcases j with _ | j
    · simp only [List.getElem?_cons_zero, Option.some.injEq] at hj
      subst hj
      have : (⟨z, 0, none⟩ : Addr).add 0 = ⟨z, 0, none⟩ := by unfold Addr.add; split <;> simp_all
      rw [this]; exact hc
    · simp at hj
  · intro v' w' h1 hg _
    exact h v' w' h1 (below_of_grown hg (fun k hk => (hown.lt k hk).1) hbase)
end Go.Proofs.YtadjnfpomjopkaaGreat
