/- The reference: Fire (printed by gen_r12.py). The reference: Pass (printed by gen_r13.py). -/
import Derived.Test.YtadjnfpomjopkaaGreatSm32
import Derived.Test.YtadjnfpomjopkaaGreatSm21

namespace Go.Proofs.YtadjnfpomjopkaaGreat
open Go.RowKit

set_option maxRecDepth 100000 in
set_option maxHeartbeats 8000000 in
theorem rfireM {w : World} {q : Mem} {M : Mdl} {r : Stm} {s : Sta} (hm : MdQ w q M) (hk : SOK s) (xn : Int) (hl : M.stages.length ≤ 31) (hml : M.miles.length ≤ 31) :
    Calls Tryz.prog 61 #[.agg (mdC q M), .agg (stC r s), .agg #[.bool true, .int .i64 xn]] w (Ret w (.agg (stC r (fireS M s (true, xn))))) := by
  obtain ⟨RC, hRC⟩ : ∃ RC, stC r (fireS M s (true, xn)) = RC := ⟨_, rfl⟩
  rw [hRC]
  obtain ⟨W1, h1, HB1, HM, HF⟩ := boxM hm
  obtain ⟨W2, h2, hb2, x2⟩ := box1 W1 (stC r s) 44
  obtain ⟨W3, h3, hb3, x3⟩ := box1 W2 #[.bool true, .int .i64 xn] 118
  obtain ⟨W4, h4, hb4, x4⟩ := box1 W3 #[.slice none 0 0, .int .i64 0, .int .i64 0, .slice none 0 0, .slice none 0 0] 44
  have hs2 : W2.heap.size = W1.heap.size + 1 := by rw [← h2]; simp
  have hs3 : W3.heap.size = W2.heap.size + 1 := by rw [← h3]; simp
  have hs4 : W4.heap.size = W3.heap.size + 1 := by rw [← h4]; simp
  have hb24 := hb3.trans (hb4.mono hb3.size)
  have hb14 := hb2.trans (hb24.mono hb2.size)
  have HB14 := Lib.hid hb14
  have HX := Lib.hid (And.intro (x3.keep hb4) x4)
  have HT4 := Lib.hid (Turned.refl (x2.keep hb24))
  have HSZ : Hid (w.heap.size ≤ W1.heap.size ∧ W2.heap.size = W1.heap.size + 1 ∧ W3.heap.size = W2.heap.size + 1 ∧ W4.heap.size = W3.heap.size + 1) := ⟨HB1.out.size, hs2, hs3, hs4⟩
  have HOK := Lib.hid hk
  have HLL := Lib.hid hl
  have HML := Lib.hid hml
  have hmm := hm.miles.max
  have hmg := hm.guards.max
  have hms := hm.stages.max
  have HPA : Hid (∀ V, Below W1.heap.size W1 V → Calls Tryz.prog 72 #[.agg (mdC q M)] V fun e w' => ∃ v', e = .returned v' ∧ w'.ownsRow V.heap.size 3 1 v' (parL M).length (ints (parL M)) ∧ Below V.heap.size V w') := fun V hV => rparQ (HM.out.below hV) (by omega)
  unfold mdC at h1 HPA
  unfold stC at h2 HT4 hRC
  unfold mdC stC
  unfold MdB at HF
  clear hm hk hb2 hb3 hb4 x2 x3 x4 hs2 hs3 hs4 hb24 hb14
  obtain ⟨c0, c1, c2, c3, c4, c5, c6, c7, c8, c9⟩ := HF.out _ HB14.out
  have y0 := HX.out.1.cell (i := 0) rfl
  have y1 := HX.out.1.cell (i := 1) rfl

  have HI1 := Lib.hid (fun V => rin18 xn M.miles.length V)
  go_enter Tryz.func61, Tryz.ntmps61
  go_upto_region 2 with fail
  clear c0 c1 c2 c3 c4 c5 c6 c7 c8 c9 y0 y1
  cases i1 : inM xn M.miles.length
  case false =>
    have HE : Hid (RC = #[.slice r.a0 s.vals.length r.k0, .int .i64 s.opn, .int .i64 s.dne, .slice r.a3 s.did.length r.k3, .slice r.a4 s.cnt.length r.k4]) := by
      unfold Hid; rw [← hRC]; unfold fireS
      rw [findS_miles i1]
    rw [i1] at HI1
    have HSF : Hid (∀ V, Below W4.heap.size W4 V → MdB V w.heap.size q M ∧ V.cell? ⟨W2.heap.size, 1, none⟩ = some (.int .i64 xn)) := fun V hV => ⟨by unfold MdB; exact HF.out V (HB14.out.trans (hV.mono HB14.out.size)), (HX.out.1.keep hV).cell rfl⟩
    clear i1 hRC
    have hbz : Below W4.heap.size W4 W4.drew := (Below.refl _ _).drew
    refine startH (S := fun V => MdB V w.heap.size q M ∧ V.cell? ⟨W2.heap.size, 1, none⟩ = some (.int .i64 xn)) (by kernel_rfl) (HSF.out _ hbz) (fun hHeld => ?_)
    refine takesH [0, 1, 2, 3, 4] (by kernel_rfl) (fun _ _ d _ _ h => by cases d <;> exact h) (by kernel_rfl) (by kernel_rfl) (by assumption) ?_
    repeat (first
      | (refine TakeSeq.cons (v := ?_) rfl (by rfl) ?_ ?_
         rotate_left
         · ((intro w hSw; unfold MdB at hSw; go_simp) <;> (try with_reducible rfl))
         (try go_simp))
      | (refine TakeSeq.skip rfl (by rfl) ?_; (try go_simp)))
    refine TakeSeq.nil ?_
    refine callH 5 (by kernel_rfl) (by kernel_rfl) rfl (by rfl) ?_
    intro K hK
    go_simp
    go_at_call 69
    with_reducible refine (HI1.out _).mono ?_
    rintro e5 w5 ⟨rfl, rfl⟩
    refine hK.out _ _ (HSF.out _ hbz) (fun hHeld => ?_)
    clear hK K
    (try go_simp)
    refine takesH [6, 7, 8, 9, 10, 11, 12, 13, 14, 15, 16, 17, 18, 19, 20] (by kernel_rfl) (fun _ _ d _ _ h => by cases d <;> exact h) (by kernel_rfl) (by kernel_rfl) (by assumption) ?_
    repeat (first
      | (refine TakeSeq.cons (v := ?_) rfl (by rfl) ?_ ?_
         rotate_left
         · ((intro w hSw; unfold MdB at hSw; go_simp) <;> (try with_reducible rfl))
         (try go_simp))
      | (refine TakeSeq.skip rfl (by rfl) ?_; (try go_simp)))
    refine TakeSeq.nil ?_
    refine doneH (by kernel_rfl) ?_
    generalize W4.drew = W5 at hbz hHeld ⊢
    have HT5 := Lib.hid (HT4.out.grow hbz)
    have HBZ := Lib.hid hbz
    clear hbz hHeld
    have HS5 := Lib.hid HT5.out.1
    have HZ5 := Lib.hid (HT5.out.blk HX.out.2 (by have := HSZ.out; omega))
    have m0 := HS5.out.cell (i := 0) rfl
    have u0 := HZ5.out.cell (i := 0) rfl
    have t0 := HZ5.out.free 0
    have m1 := HS5.out.cell (i := 1) rfl
    have u1 := HZ5.out.cell (i := 1) rfl
    have t1 := HZ5.out.free 1
    have m2 := HS5.out.cell (i := 2) rfl
    have u2 := HZ5.out.cell (i := 2) rfl
    have t2 := HZ5.out.free 2
    have m3 := HS5.out.cell (i := 3) rfl
    have u3 := HZ5.out.cell (i := 3) rfl
    have t3 := HZ5.out.free 3
    have m4 := HS5.out.cell (i := 4) rfl
    have u4 := HZ5.out.cell (i := 4) rfl
    have t4 := HZ5.out.free 4
    go_wp2
    have hp := HZ5.out.put5 (.slice r.a0 s.vals.length r.k0) (.int .i64 s.opn) (.int .i64 s.dne) (.slice r.a3 s.did.length r.k3) (.slice r.a4 s.cnt.length r.k4)
    refine bodyPost_ret (v := .agg #[.slice r.a0 s.vals.length r.k0, .int .i64 s.opn, .int .i64 s.dne, .slice r.a3 s.did.length r.k3, .slice r.a4 s.cnt.length r.k4]) (st_results hp rfl Tryz.f61 rfl) rfl ?_
    rw [HE.out]
    exact ⟨rfl, below_put5 (HB1.out.trans ((HT5.out.low HB14.out (Nat.le_refl _)).mono HB1.out.size)) (by have := HSZ.out; omega) _ _ _ _ _⟩
  rw [i1] at HI1
  obtain ⟨n, rfl, hnl⟩ := inM_nat i1
  obtain ⟨m, hmx⟩ : ∃ m, M.miles[n]? = some m := ⟨_, List.getElem?_eq_getElem hnl⟩
  obtain ⟨b, off, cap, ai, ki, hv, hbl, hin, a0, a1, a2, a3, a4⟩ := mileRow (HM.out.below HB14.out).miles hmx
  simp only [Value.slice.injEq] at hv
  have ha := hv.1
  rw [ha] at HPA
  have hn0 : (0 : Int) ≤ (n : Int) := Int.natCast_nonneg _
  have hn1 := ltI hnl
  have HI2 := Lib.hid (fun V => rin18 m.stage M.stages.length V)
  have HSF : Hid (∀ V, Below W4.heap.size W4 V → MdB V w.heap.size q M ∧ V.cell? ⟨W2.heap.size, 1, none⟩ = some (.int .i64 (n : Int)) ∧ V.cell? ⟨b, off + n * 5 + 1, none⟩ = some (.int .i64 m.stage)) := fun V hV => ⟨by unfold MdB; exact HF.out V (HB14.out.trans (hV.mono HB14.out.size)), (HX.out.1.keep hV).cell rfl, (hV.cell (p := ⟨b, off + n * 5 + 1, none⟩) hbl).trans a1⟩
  have HFS := Lib.hid (findS_mile hmx)
  clear i1 hmx hv hbl hin a0 a1 a2 a3 a4 hnl
  cases i2 : inM m.stage M.stages.length
  case false =>
    have HE : Hid (RC = #[.slice r.a0 s.vals.length r.k0, .int .i64 s.opn, .int .i64 s.dne, .slice r.a3 s.did.length r.k3, .slice r.a4 s.cnt.length r.k4]) := by
      unfold Hid; rw [← hRC]; unfold fireS
      rw [HFS.out]; dsimp only; rw [i2]; rfl
    rw [i2] at HI2
    clear i2 hRC
    have hbz : Below W4.heap.size W4 W4.drew := (Below.refl _ _).drew
    refine startH (S := fun V => MdB V w.heap.size q M ∧ V.cell? ⟨W2.heap.size, 1, none⟩ = some (.int .i64 (n : Int)) ∧ V.cell? ⟨b, off + n * 5 + 1, none⟩ = some (.int .i64 m.stage)) (by kernel_rfl) (HSF.out _ hbz) (fun hHeld => ?_)
    refine takesH [0, 1, 2, 3, 4] (by kernel_rfl) (fun _ _ d _ _ h => by cases d <;> exact h) (by kernel_rfl) (by kernel_rfl) (by assumption) ?_
    repeat (first
      | (refine TakeSeq.cons (v := ?_) rfl (by rfl) ?_ ?_
         rotate_left
         · ((intro w hSw; unfold MdB at hSw; go_simp) <;> (try with_reducible rfl))
         (try go_simp))
      | (refine TakeSeq.skip rfl (by rfl) ?_; (try go_simp)))
    refine TakeSeq.nil ?_
    refine callH 5 (by kernel_rfl) (by kernel_rfl) rfl (by rfl) ?_
    intro K hK
    go_simp
    go_at_call 69
    with_reducible refine (HI1.out _).mono ?_
    rintro e5 w5 ⟨rfl, rfl⟩
    refine hK.out _ _ (HSF.out _ hbz) (fun hHeld => ?_)
    clear hK K
    (try go_simp)
    refine takesH [6, 7, 8, 9, 10, 11, 12, 13, 14, 15, 16, 17] (by kernel_rfl) (fun _ _ d _ _ h => by cases d <;> exact h) (by kernel_rfl) (by kernel_rfl) (by assumption) ?_
    repeat (first
      | (refine TakeSeq.cons (v := ?_) rfl (by rfl) ?_ ?_
         rotate_left
         · ((intro w hSw; unfold MdB at hSw; go_simp) <;> (try with_reducible rfl))
         (try go_simp))
      | (refine TakeSeq.skip rfl (by rfl) ?_; (try go_simp)))
    refine TakeSeq.nil ?_
    refine callH 18 (by kernel_rfl) (by kernel_rfl) rfl (by rfl) ?_
    intro K hK
    go_simp
    go_at_call 69
    with_reducible refine (HI2.out _).mono ?_
    rintro e5 w5 ⟨rfl, rfl⟩
    refine hK.out _ _ (HSF.out _ hbz) (fun hHeld => ?_)
    clear hK K
    (try go_simp)
    refine takesH [19, 20] (by kernel_rfl) (fun _ _ d _ _ h => by cases d <;> exact h) (by kernel_rfl) (by kernel_rfl) (by assumption) ?_
    repeat (first
      | (refine TakeSeq.cons (v := ?_) rfl (by rfl) ?_ ?_
         rotate_left
         · ((intro w hSw; unfold MdB at hSw; go_simp) <;> (try with_reducible rfl))
         (try go_simp))
      | (refine TakeSeq.skip rfl (by rfl) ?_; (try go_simp)))
    refine TakeSeq.nil ?_
    refine doneH (by kernel_rfl) ?_
    generalize W4.drew = W5 at hbz hHeld ⊢
    have HT5 := Lib.hid (HT4.out.grow hbz)
    have HBZ := Lib.hid hbz
    clear hbz hHeld
    have HS5 := Lib.hid HT5.out.1
    have HZ5 := Lib.hid (HT5.out.blk HX.out.2 (by have := HSZ.out; omega))
    have m0 := HS5.out.cell (i := 0) rfl
    have u0 := HZ5.out.cell (i := 0) rfl
    have t0 := HZ5.out.free 0
    have m1 := HS5.out.cell (i := 1) rfl
    have u1 := HZ5.out.cell (i := 1) rfl
    have t1 := HZ5.out.free 1
    have m2 := HS5.out.cell (i := 2) rfl
    have u2 := HZ5.out.cell (i := 2) rfl
    have t2 := HZ5.out.free 2
    have m3 := HS5.out.cell (i := 3) rfl
    have u3 := HZ5.out.cell (i := 3) rfl
    have t3 := HZ5.out.free 3
    have m4 := HS5.out.cell (i := 4) rfl
    have u4 := HZ5.out.cell (i := 4) rfl
    have t4 := HZ5.out.free 4
    go_wp2
    have hp := HZ5.out.put5 (.slice r.a0 s.vals.length r.k0) (.int .i64 s.opn) (.int .i64 s.dne) (.slice r.a3 s.did.length r.k3) (.slice r.a4 s.cnt.length r.k4)
    refine bodyPost_ret (v := .agg #[.slice r.a0 s.vals.length r.k0, .int .i64 s.opn, .int .i64 s.dne, .slice r.a3 s.did.length r.k3, .slice r.a4 s.cnt.length r.k4]) (st_results hp rfl Tryz.f61 rfl) rfl ?_
    rw [HE.out]
    exact ⟨rfl, below_put5 (HB1.out.trans ((HT5.out.low HB14.out (Nat.le_refl _)).mono HB1.out.size)) (by have := HSZ.out; omega) _ _ _ _ _⟩
  obtain ⟨j, hj, hjl⟩ := inM_nat i2
  rw [i2] at HI2
  rw [hj] at HI2 HSF HFS
  rw [hj] at i2
  have HIN2 := Lib.hid i2
  have HJL := Lib.hid hjl
  clear i2 hj
  have hbz : Below W4.heap.size W4 W4.drew := (Below.refl _ _).drew
  refine startH (S := fun V => MdB V w.heap.size q M ∧ V.cell? ⟨W2.heap.size, 1, none⟩ = some (.int .i64 (n : Int)) ∧ V.cell? ⟨b, off + n * 5 + 1, none⟩ = some (.int .i64 (j : Int))) (by kernel_rfl) (HSF.out _ hbz) (fun hHeld => ?_)
  refine takesH [0, 1, 2, 3, 4] (by kernel_rfl) (fun _ _ d _ _ h => by cases d <;> exact h) (by kernel_rfl) (by kernel_rfl) (by assumption) ?_
  repeat (first
    | (refine TakeSeq.cons (v := ?_) rfl (by rfl) ?_ ?_
       rotate_left
       · ((intro w hSw; unfold MdB at hSw; go_simp) <;> (try with_reducible rfl))
       (try go_simp))
    | (refine TakeSeq.skip rfl (by rfl) ?_; (try go_simp)))
  refine TakeSeq.nil ?_
  refine callH 5 (by kernel_rfl) (by kernel_rfl) rfl (by rfl) ?_
  intro K hK
  go_simp
  go_at_call 69
  with_reducible refine (HI1.out _).mono ?_
  rintro e5 w5 ⟨rfl, rfl⟩
  refine hK.out _ _ (HSF.out _ hbz) (fun hHeld => ?_)
  clear hK K
  (try go_simp)
  refine takesH [6, 7, 8, 9, 10, 11, 12, 13, 14, 15, 16, 17] (by kernel_rfl) (fun _ _ d _ _ h => by cases d <;> exact h) (by kernel_rfl) (by kernel_rfl) (by assumption) ?_
  repeat (first
    | (refine TakeSeq.cons (v := ?_) rfl (by rfl) ?_ ?_
       rotate_left
       · ((intro w hSw; unfold MdB at hSw; go_simp) <;> (try with_reducible rfl))
       (try go_simp))
    | (refine TakeSeq.skip rfl (by rfl) ?_; (try go_simp)))
  refine TakeSeq.nil ?_
  refine callH 18 (by kernel_rfl) (by kernel_rfl) rfl (by rfl) ?_
  intro K hK
  go_simp
  go_at_call 69
  with_reducible refine (HI2.out _).mono ?_
  rintro e5 w5 ⟨rfl, rfl⟩
  refine hK.out _ _ (HSF.out _ hbz) (fun hHeld => ?_)
  clear hK K
  (try go_simp)
  refine takesH [19, 20] (by kernel_rfl) (fun _ _ d _ _ h => by cases d <;> exact h) (by kernel_rfl) (by kernel_rfl) (by assumption) ?_
  repeat (first
    | (refine TakeSeq.cons (v := ?_) rfl (by rfl) ?_ ?_
       rotate_left
       · ((intro w hSw; unfold MdB at hSw; go_simp) <;> (try with_reducible rfl))
       (try go_simp))
    | (refine TakeSeq.skip rfl (by rfl) ?_; (try go_simp)))
  refine TakeSeq.nil ?_
  refine doneH (by kernel_rfl) ?_
  generalize W4.drew = W5 at hbz hHeld ⊢
  have HT5 := Lib.hid (HT4.out.grow hbz)
  have HBZ := Lib.hid hbz
  clear hbz hHeld
  have ac := (HSF.out _ HBZ.out).2.2
  have HB5 := Lib.hid (HT5.out.low HB14.out (Nat.le_refl _))
  obtain ⟨c0, c1, c2, c3, c4, c5, c6, c7, c8, c9⟩ := HF.out _ HB5.out
  have d0 := HT5.out.1.cell (i := 0) rfl
  have d1 := HT5.out.1.cell (i := 1) rfl
  have d2 := HT5.out.1.cell (i := 2) rfl
  have d3 := HT5.out.1.cell (i := 3) rfl
  have d4 := HT5.out.1.cell (i := 4) rfl
  have f1 := HT5.out.1.free 1
  have f2 := HT5.out.1.free 2
  have y0 := (HT5.out.blk HX.out.1 (by have := HSZ.out; omega)).cell (i := 0) rfl
  have y1 := (HT5.out.blk HX.out.1 (by have := HSZ.out; omega)).cell (i := 1) rfl
  have HPU := Lib.hid (put_any s.dne (n : Int) true W5 HOK.out.dne.1 HOK.out.dne.2)
  go_wp2_with fail
  refine HPU.out.mono ?_
  rintro e6 W6 ⟨rfl, hb6⟩
  have HT6 := Lib.hid (HT5.out.grow hb6)
  obtain ⟨W7, h7⟩ : ∃ W, W6.setCell ⟨W1.heap.size, 2, none⟩ (.int .i64 (putZ s.dne (n : Int) true)) = W := ⟨_, rfl⟩
  have HT7 : Hid (Turned W4 W7 W1.heap.size #[.slice r.a0 s.vals.length r.k0, .int .i64 s.opn, .int .i64 (putZ s.dne (n : Int) true), .slice r.a3 s.did.length r.k3, .slice r.a4 s.cnt.length r.k4] 44) := by rw [← h7]; exact HT6.out.store 2 _
  clear c0 c1 c2 c3 c4 c5 c6 c7 c8 c9 d0 d1 d2 d3 d4 f1 f2 y0 y1 hb6 ac
  have e2 := HT6.out.1.cell (i := 2) rfl
  have g2 := HT6.out.1.free 2
  have HB7 := Lib.hid (HT7.out.low HB14.out (Nat.le_refl _))
  obtain ⟨c0, c1, c2, c3, c4, c5, c6, c7, c8, c9⟩ := HF.out _ HB7.out
  have d0 := HT7.out.1.cell (i := 0) rfl
  have d1 := HT7.out.1.cell (i := 1) rfl
  have d2 := HT7.out.1.cell (i := 2) rfl
  have d3 := HT7.out.1.cell (i := 3) rfl
  have d4 := HT7.out.1.cell (i := 4) rfl
  have f1 := HT7.out.1.free 1
  have f2 := HT7.out.1.free 2
  have y0 := (HT7.out.blk HX.out.1 (by have := HSZ.out; omega)).cell (i := 0) rfl
  have y1 := (HT7.out.blk HX.out.1 (by have := HSZ.out; omega)).cell (i := 1) rfl
  have HIW := Lib.hid (in_any s.opn W7 HOK.out.opn.1 HOK.out.opn.2)
  go_wp2_with fail
  refine HIW.out.mono ?_
  rintro e8 W8 ⟨v8, rfl, hrow, hb8⟩
  obtain ⟨g, cap8, hv8, hg8, hg8l⟩ := owns_shape hrow (by omega)
  subst hv8
  have HT8 := Lib.hid (HT7.out.grow hb8)
  have HW7 : Hid (W4.heap.size ≤ W7.heap.size) := HT7.out.2.1.size
  have HG := Lib.hid hg8
  have HR8L := Lib.hid hb8.size
  have HR8 := Lib.hid hrow
  clear c0 c1 c2 c3 c4 c5 c6 c7 c8 c9 d0 d1 d2 d3 d4 f1 f2 y0 y1 hb8 hrow hg8 hg8l e2 g2
  go_wp2
  go_loopw [9] (fun i wr => ∃ k : Nat, i = .int .i64 (k : Int) ∧ k ≤ M.stages.length ∧ Hid (wr.ownsRow W7.heap.size 4 1 (.slice (some ⟨g, 0, none⟩) 31 cap8) 31 (bools (closT M s.opn (j : Int) k))) ∧ Hid (Below W7.heap.size W8 wr)) (fun i _ => M.stages.length - (intOf i).toNat)
  case atStart => exact ⟨0, rfl, Nat.zero_le _, by rw [closT_zero]; exact HR8.out, Below.refl _ _⟩
  case round =>
    obtain ⟨k, rfl, hk, HR, HBR⟩ := hrel
    have HT9 := Lib.hid (HT8.out.under HBR.out (by have := HSZ.out; have := HW7.out; omega) HW7.out)
    have HB9 := Lib.hid (HT9.out.low HB14.out (Nat.le_refl _))
    obtain ⟨c0, c1, c2, c3, c4, c5, c6, c7, c8, c9⟩ := HF.out _ HB9.out
    have d0 := HT9.out.1.cell (i := 0) rfl
    have d1 := HT9.out.1.cell (i := 1) rfl
    have d2 := HT9.out.1.cell (i := 2) rfl
    have d3 := HT9.out.1.cell (i := 3) rfl
    have d4 := HT9.out.1.cell (i := 4) rfl
    have f1 := HT9.out.1.free 1
    have f2 := HT9.out.1.free 2
    have y0 := (HT9.out.blk HX.out.1 (by have := HSZ.out; omega)).cell (i := 0) rfl
    have y1 := (HT9.out.blk HX.out.1 (by have := HSZ.out; omega)).cell (i := 1) rfl
    rcases Nat.lt_or_ge k M.stages.length with hlt | hge
    · have hkz := ltI hlt
      have hk31 : (k : Int) < 31 := by have := HLL.out; have := HML.out; omega
      have hk0 : (0 : Int) ≤ (k : Int) := Int.natCast_nonneg _
      by_cases e : k = j
      · have be : ((k : Int) == (j : Int)) = true := by simp [e]
        have HM2 : Hid (closT M s.opn (j : Int) (k + 1) = (closT M s.opn (j : Int) k).set k false) := closT_hit (by rw [decide_eq_true (show (k : Int) = (j : Int) by omega)]; rfl)
        obtain ⟨⟨bo, cb⟩, fb, hst, hbg⟩ := row_off HR.out rT_len (show k < 31 by omega)
        have HST := Lib.hid hst
        clear e hst hbg
        go_wp2
        go_roundw
        case rel => exact ⟨k + 1, by go_num, hlt, by rw [HM2.out]; exact HST.out, HBR.out.setCell (p := ⟨g, k, none⟩) HG.out _⟩
        case measure => simp [intOf]; omega
      · have be : ((k : Int) == (j : Int)) = false := by rw [beq_eq_false_iff_ne]; omega
        have hke : decide ((k : Int) = (j : Int)) = false := decide_eq_false (by omega)
        have HKE := Lib.hid hke
        have HPX := Lib.hid (HPA.out wr HB9.out)
        clear e hke
        go_wp2_with fail
        refine HPX.out.mono ?_
        rintro e10 W10 ⟨v10, rfl, hpr, hb10⟩
        have HIS := Lib.hid (ris_any (rowI_of hpr) (j : Int) (k : Int) (by rw [parL_len]; have := HLL.out; omega))
        have HR10 := Lib.hid (owns_below HR.out hb10)
        have HB10 := Lib.hid (HBR.out.trans (hb10.mono (show W7.heap.size ≤ wr.heap.size from Nat.le_trans HR8L.out HBR.out.size)))
        clear hpr hb10 c0 c1 c2 c3 c4 c5 c6 c7 c8 c9 d0 d1 d2 d3 d4 f1 f2 y0 y1
        obtain ⟨t, ht⟩ : ∃ t, isUp (parL M) (j : Int) (k : Int) = t := ⟨_, rfl⟩
        have HTT := Lib.hid ht
        rw [ht] at HIS
        clear ht
        cases t
        · have HM2 : Hid (closT M s.opn (j : Int) (k + 1) = closT M s.opn (j : Int) k) := closT_miss (by rw [HKE.out, HTT.out]; rfl)
          go_wp2_with fail
          refine HIS.out.mono ?_
          rintro e11 w11 ⟨rfl, rfl⟩
          go_wp2
          go_roundw
          case rel => exact ⟨k + 1, by go_num, hlt, by rw [HM2.out]; exact HR10.out, HB10.out⟩
          case measure => simp [intOf]; omega
        · have HM2 : Hid (closT M s.opn (j : Int) (k + 1) = (closT M s.opn (j : Int) k).set k false) := closT_hit (by rw [HKE.out, HTT.out]; rfl)
          obtain ⟨⟨bo, cb⟩, fb, hst, hbg⟩ := row_off HR10.out rT_len (show k < 31 by omega)
          have HST := Lib.hid hst
          clear hst hbg
          go_wp2_with fail
          refine HIS.out.mono ?_
          rintro e11 w11 ⟨rfl, rfl⟩
          go_wp2
          go_roundw
          case rel => exact ⟨k + 1, by go_num, hlt, by rw [HM2.out]; exact HST.out, HB10.out.setCell (p := ⟨g, k, none⟩) HG.out _⟩
          case measure => simp [intOf]; omega
    · have hkn : k = M.stages.length := by omega
      have hge' := nltI (Nat.not_lt.2 hge)
      have HSU := Lib.hid (sum_any (.slice (some ⟨g, 0, none⟩) 31 cap8) (closT M s.opn (j : Int) k) wr rT_len (Reads.of_owns HR.out))
      have HVV : Hid (((sumB (closT M s.opn (j : Int) k) : Nat) : Int) = closeZ M s.opn (j : Int)) := by unfold Hid; rw [hkn]; exact closT_all HJL.out
      rw [HVV.out] at HSU
      have HE : Hid (RC = #[.slice r.a0 s.vals.length r.k0, .int .i64 (closeZ M s.opn (j : Int)), .int .i64 (putZ s.dne (n : Int) true), .slice r.a3 s.did.length r.k3, .slice r.a4 s.cnt.length r.k4]) := by
        unfold Hid; rw [← hRC]; unfold fireS
        rw [HFS.out]; dsimp only; rw [if_pos HIN2.out]; rfl
      obtain ⟨W11, h11⟩ : ∃ W, wr.setCell ⟨W1.heap.size, 1, none⟩ (.int .i64 (closeZ M s.opn (j : Int))) = W := ⟨_, rfl⟩
      have HT11 : Hid (Turned W4 W11 W1.heap.size #[.slice r.a0 s.vals.length r.k0, .int .i64 (closeZ M s.opn (j : Int)), .int .i64 (putZ s.dne (n : Int) true), .slice r.a3 s.did.length r.k3, .slice r.a4 s.cnt.length r.k4] 44) := by rw [← h11]; exact HT9.out.store 1 _
      clear hkn hge HVV
      go_wp2_with fail
      refine HSU.out.mono ?_
      rintro e12 w12 ⟨rfl, rfl⟩
      go_upto_region 13 with fail
      clear c0 c1 c2 c3 c4 c5 c6 c7 c8 c9 d0 d1 d2 d3 d4 f1 f2 y0 y1
      have HS11 := Lib.hid HT11.out.1
      have HZ11 := Lib.hid (HT11.out.blk HX.out.2 (by have := HSZ.out; omega))
      have m0 := HS11.out.cell (i := 0) rfl
      have u0 := HZ11.out.cell (i := 0) rfl
      have t0 := HZ11.out.free 0
      have m1 := HS11.out.cell (i := 1) rfl
      have u1 := HZ11.out.cell (i := 1) rfl
      have t1 := HZ11.out.free 1
      have m2 := HS11.out.cell (i := 2) rfl
      have u2 := HZ11.out.cell (i := 2) rfl
      have t2 := HZ11.out.free 2
      have m3 := HS11.out.cell (i := 3) rfl
      have u3 := HZ11.out.cell (i := 3) rfl
      have t3 := HZ11.out.free 3
      have m4 := HS11.out.cell (i := 4) rfl
      have u4 := HZ11.out.cell (i := 4) rfl
      have t4 := HZ11.out.free 4
      go_wp2
      have hp := HZ11.out.put5 (.slice r.a0 s.vals.length r.k0) (.int .i64 (closeZ M s.opn (j : Int))) (.int .i64 (putZ s.dne (n : Int) true)) (.slice r.a3 s.did.length r.k3) (.slice r.a4 s.cnt.length r.k4)
      refine bodyPost_ret (v := .agg #[.slice r.a0 s.vals.length r.k0, .int .i64 (closeZ M s.opn (j : Int)), .int .i64 (putZ s.dne (n : Int) true), .slice r.a3 s.did.length r.k3, .slice r.a4 s.cnt.length r.k4]) (st_results hp rfl Tryz.f61 rfl) rfl ?_
      rw [HE.out]
      exact ⟨rfl, below_put5 (HB1.out.trans ((HT11.out.low HB14.out (Nat.le_refl _)).mono HB1.out.size)) (by have := HSZ.out; omega) _ _ _ _ _⟩

theorem rfireQ {w : World} {q : Mem} {M : Mdl} {r : Stm} {s : Sta} (hm : MdQ w q M) (hk : SOK s) (x : Bool × Int) (hl : M.stages.length ≤ 31) (hml : M.miles.length ≤ 31) :
    Calls Tryz.prog 61 #[.agg (mdC q M), .agg (stC r s), .agg #[.bool x.1, .int .i64 x.2]] w (Ret w (.agg (stC r (fireS M s x)))) := by
  obtain ⟨xb, xn⟩ := x
  cases xb
  · exact rfireG hm hk xn hl hml
  · exact rfireM hm hk xn hl hml
end Go.Proofs.YtadjnfpomjopkaaGreat

namespace Go.Proofs.YtadjnfpomjopkaaGreat
open Go.RowKit

theorem putZ_n64 (s i : Int) (b : Bool) : N64 (putZ s i b) := by have := putZ_bd s i b; unfold N64; omega
theorem closeZ_n64 (M : Mdl) (o st : Int) : N64 (closeZ M o st) := by
  unfold closeZ N64
  have h : ∀ f : Nat → Bool, -9223372036854775808 ≤ ((ofB f : Nat) : Int) ∧ ((ofB f : Nat) : Int) ≤ 9223372036854775807 := fun f => by have := ofB_lt f; omega
  exact h _
theorem undoZ_n64 (M : Mdl) (o st : Int) : N64 (undoZ M o st) := by
  unfold undoZ N64
  have h : ∀ f : Nat → Bool, -9223372036854775808 ≤ ((ofB f : Nat) : Int) ∧ ((ofB f : Nat) : Int) ≤ 9223372036854775807 := fun f => by have := ofB_lt f; omega
  exact h _
theorem SOK.fire {M : Mdl} {s : Sta} (x : Bool × Int) (h : SOK s) : SOK (fireS M s x) := by
  unfold fireS
  split
  · split
    · split
      · exact ⟨h.vals, closeZ_n64 _ _ _, putZ_n64 _ _ _, h.did, h.cnt⟩
      · exact ⟨h.vals, putZ_n64 _ _ _, undoZ_n64 _ _ _, h.did, h.cnt⟩
    · exact h
  · exact h
theorem SOK.passL {M : Mdl} (ev : Int) (l : List (Bool × Int)) : ∀ {s : Sta}, SOK s → SOK (l.foldl (pasX M ev) s) := by
  induction l with
  | nil => exact fun h => h
  | cons x l ih =>
    intro s h
    rw [List.foldl_cons]
    refine ih ?_
    unfold pasX; split
    · exact h.fire x
    · exact h
theorem SOK.pass {M : Mdl} {s : Sta} (ev : Int) (h : SOK s) : SOK (pasS M ev s) := SOK.passL ev M.order h

set_option maxRecDepth 100000 in
set_option maxHeartbeats 4000000 in
theorem rpassQ {w : World} {q : Mem} {M : Mdl} {r : Stm} {s : Sta} (hm : MdQ w q M) (hs : StQ w r s) (hk : SOK s) (ev : Int) (hl : M.stages.length ≤ 31) (hml : M.miles.length ≤ 31) :
    Calls Tryz.prog 50 #[.agg (mdC q M), .agg (stC r s), .int .i64 ev] w (Ret w (.agg (stC r (pasS M ev s)))) := by
  obtain ⟨RC, hRC⟩ : ∃ RC, stC r (pasS M ev s) = RC := ⟨_, rfl⟩
  rw [hRC]
  have HRC := Lib.hid hRC
  have HSW := Lib.hid hs
  have HSK := Lib.hid hk
  obtain ⟨W1, h1, HB1, HM, HF⟩ := boxM hm
  obtain ⟨W2, h2, hb2, x2⟩ := box1 W1 (stC r s) 44
  obtain ⟨W3, h3, hb3, x3⟩ := box1 W2 #[.slice none 0 0, .int .i64 0, .int .i64 0, .slice none 0 0, .slice none 0 0] 44
  have hs2 : W2.heap.size = W1.heap.size + 1 := by rw [← h2]; simp
  have hb13 := hb2.trans (hb3.mono hb2.size)
  have HB13 := Lib.hid hb13
  have HX := Lib.hid (And.intro (x2.keep hb3) x3)
  have HSZ := Lib.hid hs2
  have HMQ : Hid (∀ V, Below W1.heap.size W1 V → MdQ V q M) := fun V hV => HM.out.below hV
  have hmo := HM.out.order.max
  have HLL := Lib.hid (And.intro hl hml)
  unfold mdC at h1
  unfold stC at h2
  unfold mdC stC
  clear hm hs hk hb2 hb3 x2 x3 hs2 hb13 hRC hl hml
  go_enter Tryz.func50, Tryz.ntmps50
  go_wp2_with fail
  go_loopw [7] (fun i wr => ∃ (j : Nat) (sj : Sta), i = .int .i64 (j : Int) ∧ j ≤ M.order.length ∧ Hid (Turned W3 wr W1.heap.size (stC r sj) 44 ∧ StQ w r sj ∧ SOK sj ∧ (M.order.take j).foldl (pasX M ev) s = sj)) (fun i _ => M.order.length - (intOf i).toNat)
  case atStart => exact ⟨0, s, rfl, Nat.zero_le _, Turned.refl HX.out.1, HSW.out, HSK.out, rfl⟩
  case round =>
    obtain ⟨j, sj, rfl, hj, HT⟩ := hrel
    have HBW : Hid (Below W1.heap.size W1 wr) := HT.out.1.low HB13.out (Nat.le_refl _)
    have HBw : Hid (Below w.heap.size w wr) := HB1.out.trans (HBW.out.mono HB1.out.size)
    have hF := HF.out _ HBW.out
    unfold MdB at hF
    obtain ⟨c0, c1, c2, c3, c4, c5, c6, c7, c8, c9⟩ := hF
    rcases Nat.lt_or_ge j M.order.length with hlt | hge
    · have hkz := ltI hlt
      have hj0 : (0 : Int) ≤ (j : Int) := Int.natCast_nonneg _
      obtain ⟨x, hx⟩ : ∃ x, M.order[j]? = some x := ⟨_, List.getElem?_eq_getElem hlt⟩
      obtain ⟨b, off, cap, hv, hbl, a0, a1⟩ := sentRow (HMQ.out _ HBW.out).order hx
      simp only [Value.slice.injEq] at hv
      have ha := hv.1
      have HNX : Hid ((M.order.take (j + 1)).foldl (pasX M ev) s = pasX M ev sj x) := by
        unfold Hid; rw [List.take_add_one, hx, List.foldl_append, HT.out.2.2.2]; rfl
      have HSF : Hid (∀ V, Below wr.heap.size wr V → (MdB V w.heap.size q M ∧ StB V W1.heap.size r sj) ∧ V.cell? ⟨b, off + j * 2, none⟩ = some (.bool x.1) ∧ V.cell? ⟨b, off + j * 2 + 1, none⟩ = some (.int .i64 x.2)) := fun V hV => ⟨⟨HF.out V (HBW.out.trans (hV.mono HBW.out.size)), .of (HT.out.1.1.keep hV)⟩, (hV.cell (p := ⟨b, off + j * 2, none⟩) hbl).trans a0, (hV.cell (p := ⟨b, off + j * 2 + 1, none⟩) hbl).trans a1⟩
      have HFS : Hid (∀ V, Below wr.heap.size wr V → Calls Tryz.prog 60 #[.agg (mdC q M), .agg (stC r sj), .agg #[.bool x.1, .int .i64 x.2], .int .i64 ev] V (Ret V (.bool (firesS M sj x ev)))) := fun V hV => rfiresQ (HMQ.out _ (HBW.out.trans (hV.mono HBW.out.size))) (HT.out.2.1.below (HBw.out.trans (hV.mono HBw.out.size))) HT.out.2.2.1 x ev
      have HFI : Hid (∀ V, Below wr.heap.size wr V → Calls Tryz.prog 61 #[.agg (mdC q M), .agg (stC r sj), .agg #[.bool x.1, .int .i64 x.2]] V (Ret V (.agg (stC r (fireS M sj x))))) := fun V hV => rfireQ (HMQ.out _ (HBW.out.trans (hV.mono HBW.out.size))) HT.out.2.2.1 x HLL.out.1 HLL.out.2
      obtain ⟨fz, hfz⟩ : ∃ z, firesS M sj x ev = z := ⟨_, rfl⟩
      have HFZ := Lib.hid hfz
      rw [hfz] at HFS
      unfold mdC stC at HFS HFI
      rw [ha] at HFS HFI
      clear hx hv hbl hfz
      go_upto_region 4 with fail
      clear c0 c1 c2 c3 c4 c5 c6 c7 c8 c9 a0 a1
      have hbz : Below wr.heap.size wr wr.drew := (Below.refl _ _).drew
      refine startH (S := fun V => (MdB V w.heap.size q M ∧ StB V W1.heap.size r sj) ∧ V.cell? ⟨b, off + j * 2, none⟩ = some (.bool x.1) ∧ V.cell? ⟨b, off + j * 2 + 1, none⟩ = some (.int .i64 x.2)) (by kernel_rfl) (HSF.out _ hbz) (fun hHeld => ?_)
      refine takesH [0, 1, 2, 3, 4, 5, 6, 7] (by kernel_rfl) (fun _ _ d _ _ h => by cases d <;> exact h) (by kernel_rfl) (by kernel_rfl) (by assumption) ?_
      repeat (first
        | (refine TakeSeq.cons (v := ?_) rfl (by rfl) ?_ ?_
           rotate_left
           · ((intro w hSw; unfold MdB StB at hSw; go_simp) <;> (try with_reducible rfl))
           (try go_simp))
        | (refine TakeSeq.skip rfl (by rfl) ?_; (try go_simp)))
      refine TakeSeq.nil ?_
      refine callH 8 (by kernel_rfl) (by kernel_rfl) rfl (by rfl) ?_
      intro K hK
      go_simp
      go_at_call 60
      with_reducible refine (HFS.out _ hbz).mono ?_
      rintro e8 W8 ⟨rfl, hbn⟩
      have hbz := hbz.trans (hbn.mono hbz.size)
      refine hK.out _ _ (HSF.out _ hbz) (fun hHeld => ?_)
      clear hK K hbn
      (try go_simp)
      refine doneH (by kernel_rfl) ?_
      have HBZ := Lib.hid hbz
      cases fz
      · have HN2 : Hid ((M.order.take (j + 1)).foldl (pasX M ev) s = sj) := by unfold Hid; rw [HNX.out]; unfold pasX; rw [HFZ.out]; rfl
        clear hbz hHeld
        go_wp2
        (try rw [← ha])
        go_roundw
        case rel => exact ⟨j + 1, sj, by go_num, hlt, HT.out.1.grow HBZ.out, HT.out.2.1, HT.out.2.2.1, HN2.out⟩
        case measure => simp [intOf]; omega
      · have HN2 : Hid ((M.order.take (j + 1)).foldl (pasX M ev) s = fireS M sj x) := by unfold Hid; rw [HNX.out]; unfold pasX; rw [HFZ.out]; rfl
        clear hbz hHeld
        go_upto_region 5 with fail
        have hbz : Below wr.heap.size wr W8.drew := HBZ.out.drew
        refine startG (S := fun V => (MdB V w.heap.size q M ∧ StB V W1.heap.size r sj) ∧ V.cell? ⟨b, off + j * 2, none⟩ = some (.bool x.1) ∧ V.cell? ⟨b, off + j * 2 + 1, none⟩ = some (.int .i64 x.2)) (fun i => i == 8) (fun _ => false) (by kernel_rfl) (HSF.out _ hbz) (fun hHeld => ?_)
        generalize W8.drew = D at hbz hHeld ⊢
        refine takesG [0, 1, 2, 3, 4, 5, 6] (by kernel_rfl) (fun _ _ d _ _ h => by cases d <;> exact h) (by kernel_rfl) (by kernel_rfl) (by kernel_rfl) (by assumption) ?_
        repeat (first
          | (refine TakeSeq2.cons (v := ?_) rfl rfl (by rfl) ?_ ?_
             rotate_left
             · ((intro w hSw; unfold MdB StB at hSw; go_simp) <;> (try with_reducible rfl))
             (try go_simp))
          | (refine TakeSeq2.skip rfl (by rfl) ?_; (try go_simp)))
        refine TakeSeq2.nil ?_
        refine callG1 7 (by kernel_rfl) (by kernel_rfl) rfl (by rfl) ?_
        intro K hK
        go_simp
        go_at_call 61
        with_reducible refine (HFI.out _ hbz).mono ?_
        rintro e9 W9 ⟨rfl, hbn⟩
        have hbz := hbz.trans (hbn.mono hbz.size)
        refine hK.out _ _ (fun _ => HSF.out _ hbz) ?_
        clear hK K hbn
        (try go_simp)
        have HT9 := Lib.hid (HT.out.1.grow hbz)
        obtain ⟨sn, hsn⟩ : ∃ t, fireS M sj x = t := ⟨_, rfl⟩
        have HSN := Lib.hid hsn
        rw [hsn]
        clear hsn
        have d0 := HT9.out.1.cell (i := 0) rfl
        have f0 := HT9.out.1.free 0
        have d1 := HT9.out.1.cell (i := 1) rfl
        have f1 := HT9.out.1.free 1
        have d2 := HT9.out.1.cell (i := 2) rfl
        have f2 := HT9.out.1.free 2
        have d3 := HT9.out.1.cell (i := 3) rfl
        have f3 := HT9.out.1.free 3
        have d4 := HT9.out.1.cell (i := 4) rfl
        have f4 := HT9.out.1.free 4
        refine callG1 8 (by kernel_rfl) (by kernel_rfl) rfl (by rfl) ?_
        intro K hK
        go_simp
        refine hK.out _ _ (fun h => absurd h (by decide)) ?_
        clear hK K
        (try go_simp)
        refine doneG (by kernel_rfl) ?_
        have HTN : Hid (Turned W3 (((((W9.setCell ⟨W1.heap.size, 0, none⟩ (.slice r.a0 sn.vals.length r.k0)).setCell ⟨W1.heap.size, 1, none⟩ (.int .i64 sn.opn)).setCell ⟨W1.heap.size, 2, none⟩ (.int .i64 sn.dne)).setCell ⟨W1.heap.size, 3, none⟩ (.slice r.a3 sn.did.length r.k3)).setCell ⟨W1.heap.size, 4, none⟩ (.slice r.a4 sn.cnt.length r.k4)) W1.heap.size (stC r sn) 44) := HT9.out.put5 _ _ _ _ _
        have HSQ : Hid (StQ w r sn ∧ SOK sn) := by
          rw [← HSN.out]; exact ⟨HT.out.2.1.fire M x, HT.out.2.2.1.fire x⟩
        clear d0 d1 d2 d3 d4 f0 f1 f2 f3 f4 hbz hHeld
        go_wp2
        (try rw [← ha])
        go_roundw
        case rel => exact ⟨j + 1, sn, by go_num, hlt, HTN.out, HSQ.out.1, HSQ.out.2, by rw [HN2.out, HSN.out]⟩
        case measure => simp [intOf]; omega
    · have hkn : j = M.order.length := by omega
      subst hkn
      have hge' := nltI (Nat.not_lt.2 hge)
      have HE : Hid (RC = #[.slice r.a0 sj.vals.length r.k0, .int .i64 sj.opn, .int .i64 sj.dne, .slice r.a3 sj.did.length r.k3, .slice r.a4 sj.cnt.length r.k4]) := by
        have e : pasS M ev s = sj := by have := HT.out.2.2.2; rw [List.take_length] at this; exact this
        unfold Hid; rw [← HRC.out, e]; rfl
      have HZ : Hid (Blk wr W2.heap.size #[.slice none 0 0, .int .i64 0, .int .i64 0, .slice none 0 0, .slice none 0 0] 44) := HT.out.1.blk HX.out.2 (by have := HSZ.out; omega)
      have HTS := HT.out.1
      unfold stC at HTS
      obtain ⟨HS, -⟩ := HTS
      have HS := Lib.hid HS
      have m0 := HS.out.cell (i := 0) rfl
      have u0 := HZ.out.cell (i := 0) rfl
      have t0 := HZ.out.free 0
      have m1 := HS.out.cell (i := 1) rfl
      have u1 := HZ.out.cell (i := 1) rfl
      have t1 := HZ.out.free 1
      have m2 := HS.out.cell (i := 2) rfl
      have u2 := HZ.out.cell (i := 2) rfl
      have t2 := HZ.out.free 2
      have m3 := HS.out.cell (i := 3) rfl
      have u3 := HZ.out.cell (i := 3) rfl
      have t3 := HZ.out.free 3
      have m4 := HS.out.cell (i := 4) rfl
      have u4 := HZ.out.cell (i := 4) rfl
      have t4 := HZ.out.free 4
      go_wp2
      have hp := HZ.out.put5 (.slice r.a0 sj.vals.length r.k0) (.int .i64 sj.opn) (.int .i64 sj.dne) (.slice r.a3 sj.did.length r.k3) (.slice r.a4 sj.cnt.length r.k4)
      refine bodyPost_ret (v := .agg #[.slice r.a0 sj.vals.length r.k0, .int .i64 sj.opn, .int .i64 sj.dne, .slice r.a3 sj.did.length r.k3, .slice r.a4 sj.cnt.length r.k4]) (st_results hp rfl Tryz.f50 rfl) rfl ?_
      rw [HE.out]
      exact ⟨rfl, below_put5 HBw.out (by have := HSZ.out; have := HB1.out.size; omega) _ _ _ _ _⟩
end Go.Proofs.YtadjnfpomjopkaaGreat
