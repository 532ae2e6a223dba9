/- The reference: At of parts (printed by gen_r9.py). -/
import Derived.Test.YtadjnfpomjopkaaGreatSm29

namespace Go.Proofs.YtadjnfpomjopkaaGreat
open Go.RowKit

set_option maxRecDepth 100000 in
set_option maxHeartbeats 2000000 in
theorem at_15 {l : List Ins} {r : Stm} {s : Sta} {y : It} {f : Fm} {hy : arN y.op = 1} {a e : Nat} {x : Ins} (hx : l[e + 1]? = some x) (hl64 : l.length ≤ 64) (hop : x.op = 15) (hF : AtK l r s f a e) : AtK l r s (Fm.one y hy f) a (e + 1) := by
  have HEV : Hid (evF s l (Fm.one y hy f) a = !evF s l f a) := by unfold Hid; rw [evF]
  intro V lv sv hS hL hI
  have hmx := hL.max
  have hel := (List.getElem?_eq_some_iff.1 hx).1
  obtain ⟨W1, h1, HB, HS, HF⟩ := boxS hS
  obtain ⟨b, off, c, hv, hbl, a0, a1, a2, a3, a4, a5, a6⟩ := insRow (hL.below instE_keep HB.out) hx
  have HL := Lib.hid (hL.below instE_keep HB.out)
  have HI := Lib.hid (hI.keep HB.out)
  subst hv
  rw [hop] at a0
  obtain ⟨W2, h2, hb2, x2⟩ := box1 W1 #[.int .i64 15, .int .i64 x.l.1, .int .i64 x.l.2, .int .i64 x.r.1, .int .i64 x.r.2, .int .i64 x.n, .int .i64 x.user] 37
  obtain ⟨W3, h3, hb3, x3⟩ := box1 W2 #[.int .i64 (e : Int)] 3
  have hb23 := hb2.trans (hb3.mono hb2.size)
  have HX := Lib.hid (And.intro (x2.keep hb3) x3)
  have HK := Lib.hid (kids_1 (ItIn.keep HI.out hb2) (itI_at hx) (by show arN x.op = 1; rw [hop]; rfl) (by rw [List.length_map]; omega))
  have HB3 := Lib.hid hb23
  have hez : (((e : Int) + 1) : Int) < (l.length : Int) := by omega
  have he0 : (0 : Int) ≤ ((e : Int) + 1) := by omega
  obtain ⟨R, hR⟩ : ∃ R, evF s l (Fm.one y hy f) a = R := ⟨_, rfl⟩
  have HR := Lib.hid hR
  rw [hR]
  rw [show ((e + 1 : Nat) : Int) = (e : Int) + 1 from rfl]
  have hF := HF.out _ hb23
  unfold StB at hF
  unfold stC at h1
  unfold stC
  obtain ⟨d0, d1, d2, d3, d4⟩ := hF
  clear hS hL hI hb2 x2 hb23 hR hx hel hop hb3 x3
  go_enter Tryz.func30, Tryz.ntmps30
  go_wp2_with fail
  refine HK.out.mono ?_
  rintro e3 w3 ⟨rfl, hw⟩
  rw [h3] at hw
  rw [hw]
  clear hw w3
  have g0 := HX.out.1.cell (i := 0) rfl
  have g1 := HX.out.1.cell (i := 1) rfl
  have g2 := HX.out.1.cell (i := 2) rfl
  have g3 := HX.out.1.cell (i := 3) rfl
  have g4 := HX.out.1.cell (i := 4) rfl
  have g5 := HX.out.1.cell (i := 5) rfl
  have g6 := HX.out.1.cell (i := 6) rfl
  have k0 := HX.out.2.cell (i := 0) rfl

  obtain ⟨t, ht⟩ : ∃ t, evF s l f a = t := ⟨_, rfl⟩
  have HREC : Hid (∀ V', Below W3.heap.size W3 V' → Calls Tryz.prog 30 #[.slice (some ⟨b, off, none⟩) l.length c, sv, .int .i64 (e : Int), .agg #[.slice r.a0 s.vals.length r.k0, .int .i64 s.opn, .int .i64 s.dne, .slice r.a3 s.did.length r.k3, .slice r.a4 s.cnt.length r.k4]] V' (Ret V' (.bool (t)))) := fun V' hV => by
    have h := hF V' _ _ (HS.out.below (HB3.out.trans (hV.mono HB3.out.size))) (HL.out.below instE_keep (HB3.out.trans (hV.mono HB3.out.size))) (ItIn.keep HI.out (HB3.out.trans (hV.mono HB3.out.size)))
    rw [ht] at h
    unfold stC at h
    exact h
  have HEV2 : Hid (R = !t) := by unfold Hid; rw [← HR.out, HEV.out, ht]
  clear ht
  have HSF : Hid (∀ V', Below W3.heap.size W3 V' → StB V' V.heap.size r s ∧ V'.cell? ⟨W2.heap.size, 0, none⟩ = some (.int .i64 (e : Int))) := fun V' hV => ⟨HF.out V' (HB3.out.trans (hV.mono HB3.out.size)), (HX.out.2.keep hV).cell rfl⟩
  go_upto_region 11 with fail
  clear d0 d1 d2 d3 d4 g0 g1 g2 g3 g4 g5 g6
  have hbz : Below W3.heap.size W3 W3.drew := (Below.refl _ _).drew
  refine startH (S := fun V' => StB V' V.heap.size r s ∧ V'.cell? ⟨W2.heap.size, 0, none⟩ = some (.int .i64 (e : Int))) (by kernel_rfl) (HSF.out _ hbz) (fun hHeld => ?_)
  refine takesH [0, 1, 2, 3, 4, 5] (by kernel_rfl) (fun _ _ d _ _ h => by cases d <;> exact h) (by kernel_rfl) (by kernel_rfl) (by assumption) ?_
  repeat (first
    | (refine TakeSeq.cons (v := ?_) rfl (by rfl) ?_ ?_
       rotate_left
       · ((intro w hSw; unfold StB at hSw; go_simp) <;> (try with_reducible rfl))
       (try go_simp))
    | (refine TakeSeq.skip rfl (by rfl) ?_; (try go_simp)))
  refine TakeSeq.nil ?_
  refine callH 6 (by kernel_rfl) (by kernel_rfl) rfl (by rfl) ?_
  intro K hK
  go_simp
  go_at_call 30
  with_reducible refine (HREC.out _ hbz).mono ?_
  rintro e10 w10 ⟨rfl, hbn⟩
  have hbz := hbz.trans (hbn.mono hbz.size)
  refine hK.out _ _ (HSF.out _ hbz) (fun hHeld => ?_)
  clear hK K hbn
  (try go_simp)
  refine takesH [7, 8] (by kernel_rfl) (fun _ _ d _ _ h => by cases d <;> exact h) (by kernel_rfl) (by kernel_rfl) (by assumption) ?_
  repeat (first
    | (refine TakeSeq.cons (v := ?_) rfl (by rfl) ?_ ?_
       rotate_left
       · ((intro w hSw; unfold StB at hSw; go_simp) <;> (try with_reducible rfl))
       (try go_simp))
    | (refine TakeSeq.skip rfl (by rfl) ?_; (try go_simp)))
  refine TakeSeq.nil ?_
  refine doneH (by kernel_rfl) ?_
  go_wp2
  go_ret
  exact ⟨ret_bool (HEV2.out.symm), HB.out.trans ((HB3.out.trans (hbz.mono HB3.out.size)).mono HB.out.size)⟩

set_option maxRecDepth 100000 in
set_option maxHeartbeats 4000000 in
theorem at_16 {l : List Ins} {r : Stm} {s : Sta} {y : It} {f g : Fm} {hy : arN y.op = 2} {a e k : Nat} {x : Ins} (hx : l[e + 1]? = some x) (hl64 : l.length ≤ 64) (hop : x.op = 16) (hyo : y.op = 16) (hk : begB (l.map itI) (e + 1) 1 = (k : Int) + 1) (hF : AtK l r s f a k) (hG : AtK l r s g (a + f.flat.length) e) : AtK l r s (Fm.two y hy f g) a (e + 1) := by
  have HEV : Hid (evF s l (Fm.two y hy f g) a = opB 16 (evF s l f a) (evF s l g (a + f.flat.length))) := by unfold Hid; rw [evF, hyo]
  intro V lv sv hS hL hI
  have hmx := hL.max
  have hel := (List.getElem?_eq_some_iff.1 hx).1
  obtain ⟨W1, h1, HB, HS, HF⟩ := boxS hS
  obtain ⟨b, off, c, hv, hbl, a0, a1, a2, a3, a4, a5, a6⟩ := insRow (hL.below instE_keep HB.out) hx
  have HL := Lib.hid (hL.below instE_keep HB.out)
  have HI := Lib.hid (hI.keep HB.out)
  subst hv
  rw [hop] at a0
  obtain ⟨W2, h2, hb2, x2⟩ := box1 W1 #[.int .i64 16, .int .i64 x.l.1, .int .i64 x.l.2, .int .i64 x.r.1, .int .i64 x.r.2, .int .i64 x.n, .int .i64 x.user] 37
  obtain ⟨W3, h3, hb3, x3⟩ := box1 W2 #[.int .i64 (k : Int), .int .i64 (e : Int)] 3
  have hb23 := hb2.trans (hb3.mono hb2.size)
  have HX := Lib.hid (And.intro (x2.keep hb3) x3)
  have HK := Lib.hid (kids_2 (ItIn.keep HI.out hb2) (itI_at hx) (by show arN x.op = 2; rw [hop]; rfl) (by rw [List.length_map]; omega) hk)
  have HB3 := Lib.hid hb23
  have hez : (((e : Int) + 1) : Int) < (l.length : Int) := by omega
  have he0 : (0 : Int) ≤ ((e : Int) + 1) := by omega
  obtain ⟨R, hR⟩ : ∃ R, evF s l (Fm.two y hy f g) a = R := ⟨_, rfl⟩
  have HR := Lib.hid hR
  rw [hR]
  rw [show ((e + 1 : Nat) : Int) = (e : Int) + 1 from rfl]
  have hF := HF.out _ hb23
  unfold StB at hF
  unfold stC at h1
  unfold stC
  obtain ⟨d0, d1, d2, d3, d4⟩ := hF
  clear hk hS hL hI hb2 x2 hb23 hR hx hel hop hb3 x3
  go_enter Tryz.func30, Tryz.ntmps30
  go_wp2_with fail
  refine HK.out.mono ?_
  rintro e3 w3 ⟨rfl, hw⟩
  rw [h3] at hw
  rw [hw]
  clear hw w3
  have g0 := HX.out.1.cell (i := 0) rfl
  have g1 := HX.out.1.cell (i := 1) rfl
  have g2 := HX.out.1.cell (i := 2) rfl
  have g3 := HX.out.1.cell (i := 3) rfl
  have g4 := HX.out.1.cell (i := 4) rfl
  have g5 := HX.out.1.cell (i := 5) rfl
  have g6 := HX.out.1.cell (i := 6) rfl
  have k0 := HX.out.2.cell (i := 0) rfl
  have k1 := HX.out.2.cell (i := 1) rfl

  obtain ⟨t, ht⟩ : ∃ t, evF s l f a = t := ⟨_, rfl⟩
  obtain ⟨u, hu⟩ : ∃ u, evF s l g (a + f.flat.length) = u := ⟨_, rfl⟩
  have HREC : Hid (∀ V', Below W3.heap.size W3 V' → Calls Tryz.prog 30 #[.slice (some ⟨b, off, none⟩) l.length c, sv, .int .i64 (k : Int), .agg #[.slice r.a0 s.vals.length r.k0, .int .i64 s.opn, .int .i64 s.dne, .slice r.a3 s.did.length r.k3, .slice r.a4 s.cnt.length r.k4]] V' (Ret V' (.bool (t)))) := fun V' hV => by
    have h := hF V' _ _ (HS.out.below (HB3.out.trans (hV.mono HB3.out.size))) (HL.out.below instE_keep (HB3.out.trans (hV.mono HB3.out.size))) (ItIn.keep HI.out (HB3.out.trans (hV.mono HB3.out.size)))
    rw [ht] at h
    unfold stC at h
    exact h
  have HRECG : Hid (∀ V', Below W3.heap.size W3 V' → Calls Tryz.prog 30 #[.slice (some ⟨b, off, none⟩) l.length c, sv, .int .i64 (e : Int), .agg #[.slice r.a0 s.vals.length r.k0, .int .i64 s.opn, .int .i64 s.dne, .slice r.a3 s.did.length r.k3, .slice r.a4 s.cnt.length r.k4]] V' (Ret V' (.bool (u)))) := fun V' hV => by
    have h := hG V' _ _ (HS.out.below (HB3.out.trans (hV.mono HB3.out.size))) (HL.out.below instE_keep (HB3.out.trans (hV.mono HB3.out.size))) (ItIn.keep HI.out (HB3.out.trans (hV.mono HB3.out.size)))
    rw [hu] at h
    unfold stC at h
    exact h
  have HEV2 : Hid (R = opB 16 t u) := by unfold Hid; rw [← HR.out, HEV.out, ht, hu]
  clear ht hu hyo
  cases t
  · have HSF : Hid (∀ V', Below W3.heap.size W3 V' → StB V' V.heap.size r s ∧ V'.cell? ⟨W2.heap.size, 0, none⟩ = some (.int .i64 (k : Int)) ∧ V'.cell? ⟨W2.heap.size, 1, none⟩ = some (.int .i64 (e : Int))) := fun V' hV => ⟨HF.out V' (HB3.out.trans (hV.mono HB3.out.size)), (HX.out.2.keep hV).cell rfl, (HX.out.2.keep hV).cell rfl⟩
    go_upto_region 13 with fail
    clear d0 d1 d2 d3 d4 g0 g1 g2 g3 g4 g5 g6
    have hbz : Below W3.heap.size W3 W3.drew := (Below.refl _ _).drew
    refine startH (S := fun V' => StB V' V.heap.size r s ∧ V'.cell? ⟨W2.heap.size, 0, none⟩ = some (.int .i64 (k : Int)) ∧ V'.cell? ⟨W2.heap.size, 1, none⟩ = some (.int .i64 (e : Int))) (by kernel_rfl) (HSF.out _ hbz) (fun hHeld => ?_)
    refine takesH [0, 1, 2, 3, 4, 5] (by kernel_rfl) (fun _ _ d _ _ h => by cases d <;> exact h) (by kernel_rfl) (by kernel_rfl) (by assumption) ?_
    repeat (first
      | (refine TakeSeq.cons (v := ?_) rfl (by rfl) ?_ ?_
         rotate_left
         · ((intro w hSw; unfold StB at hSw; go_simp) <;> (try with_reducible rfl))
         (try go_simp))
      | (refine TakeSeq.skip rfl (by rfl) ?_; (try go_simp)))
    refine TakeSeq.nil ?_
    refine callH 6 (by kernel_rfl) (by kernel_rfl) rfl (by rfl) ?_
    intro K hK
    go_simp
    go_at_call 30
    with_reducible refine (HREC.out _ hbz).mono ?_
    rintro e10 w10 ⟨rfl, hbn⟩
    have hbz := hbz.trans (hbn.mono hbz.size)
    refine hK.out _ _ (HSF.out _ hbz) (fun hHeld => ?_)
    clear hK K hbn
    (try go_simp)
    refine takesH [7, 8, 9, 10, 11, 12, 13, 14, 15, 16] (by kernel_rfl) (fun _ _ d _ _ h => by cases d <;> exact h) (by kernel_rfl) (by kernel_rfl) (by assumption) ?_
    repeat (first
      | (refine TakeSeq.cons (v := ?_) rfl (by rfl) ?_ ?_
         rotate_left
         · ((intro w hSw; unfold StB at hSw; go_simp) <;> (try with_reducible rfl))
         (try go_simp))
      | (refine TakeSeq.skip rfl (by rfl) ?_; (try go_simp)))
    refine TakeSeq.nil ?_
    refine doneH (by kernel_rfl) ?_
    go_wp2
    go_ret
    exact ⟨ret_bool ((by rw [HEV2.out]; cases u <;> rfl)), HB.out.trans ((HB3.out.trans (hbz.mono HB3.out.size)).mono HB.out.size)⟩
  · cases u <;>
    · have HSF : Hid (∀ V', Below W3.heap.size W3 V' → StB V' V.heap.size r s ∧ V'.cell? ⟨W2.heap.size, 0, none⟩ = some (.int .i64 (k : Int)) ∧ V'.cell? ⟨W2.heap.size, 1, none⟩ = some (.int .i64 (e : Int))) := fun V' hV => ⟨HF.out V' (HB3.out.trans (hV.mono HB3.out.size)), (HX.out.2.keep hV).cell rfl, (HX.out.2.keep hV).cell rfl⟩
      go_upto_region 13 with fail
      clear d0 d1 d2 d3 d4 g0 g1 g2 g3 g4 g5 g6
      have hbz : Below W3.heap.size W3 W3.drew := (Below.refl _ _).drew
      refine startH (S := fun V' => StB V' V.heap.size r s ∧ V'.cell? ⟨W2.heap.size, 0, none⟩ = some (.int .i64 (k : Int)) ∧ V'.cell? ⟨W2.heap.size, 1, none⟩ = some (.int .i64 (e : Int))) (by kernel_rfl) (HSF.out _ hbz) (fun hHeld => ?_)
      refine takesH [0, 1, 2, 3, 4, 5] (by kernel_rfl) (fun _ _ d _ _ h => by cases d <;> exact h) (by kernel_rfl) (by kernel_rfl) (by assumption) ?_
      repeat (first
        | (refine TakeSeq.cons (v := ?_) rfl (by rfl) ?_ ?_
           rotate_left
           · ((intro w hSw; unfold StB at hSw; go_simp) <;> (try with_reducible rfl))
           (try go_simp))
        | (refine TakeSeq.skip rfl (by rfl) ?_; (try go_simp)))
      refine TakeSeq.nil ?_
      refine callH 6 (by kernel_rfl) (by kernel_rfl) rfl (by rfl) ?_
      intro K hK
      go_simp
      go_at_call 30
      with_reducible refine (HREC.out _ hbz).mono ?_
      rintro e10 w10 ⟨rfl, hbn⟩
      have hbz := hbz.trans (hbn.mono hbz.size)
      refine hK.out _ _ (HSF.out _ hbz) (fun hHeld => ?_)
      clear hK K hbn
      (try go_simp)
      refine takesH [7, 8, 9, 10, 11, 12, 13] (by kernel_rfl) (fun _ _ d _ _ h => by cases d <;> exact h) (by kernel_rfl) (by kernel_rfl) (by assumption) ?_
      repeat (first
        | (refine TakeSeq.cons (v := ?_) rfl (by rfl) ?_ ?_
           rotate_left
           · ((intro w hSw; unfold StB at hSw; go_simp) <;> (try with_reducible rfl))
           (try go_simp))
        | (refine TakeSeq.skip rfl (by rfl) ?_; (try go_simp)))
      refine TakeSeq.nil ?_
      refine callH 14 (by kernel_rfl) (by kernel_rfl) rfl (by rfl) ?_
      intro K hK
      go_simp
      go_at_call 30
      with_reducible refine (HRECG.out _ hbz).mono ?_
      rintro e11 w11 ⟨rfl, hbn⟩
      have hbz := hbz.trans (hbn.mono hbz.size)
      refine hK.out _ _ (HSF.out _ hbz) (fun hHeld => ?_)
      clear hK K hbn
      (try go_simp)
      refine takesH [15, 16] (by kernel_rfl) (fun _ _ d _ _ h => by cases d <;> exact h) (by kernel_rfl) (by kernel_rfl) (by assumption) ?_
      repeat (first
        | (refine TakeSeq.cons (v := ?_) rfl (by rfl) ?_ ?_
           rotate_left
           · ((intro w hSw; unfold StB at hSw; go_simp) <;> (try with_reducible rfl))
           (try go_simp))
        | (refine TakeSeq.skip rfl (by rfl) ?_; (try go_simp)))
      refine TakeSeq.nil ?_
      refine doneH (by kernel_rfl) ?_
      go_wp2
      go_ret
      exact ⟨ret_bool ((by rw [HEV2.out]; rfl)), HB.out.trans ((HB3.out.trans (hbz.mono HB3.out.size)).mono HB.out.size)⟩

set_option maxRecDepth 100000 in
set_option maxHeartbeats 4000000 in
theorem at_17 {l : List Ins} {r : Stm} {s : Sta} {y : It} {f g : Fm} {hy : arN y.op = 2} {a e k : Nat} {x : Ins} (hx : l[e + 1]? = some x) (hl64 : l.length ≤ 64) (hop : x.op = 17) (hyo : y.op = 17) (hk : begB (l.map itI) (e + 1) 1 = (k : Int) + 1) (hF : AtK l r s f a k) (hG : AtK l r s g (a + f.flat.length) e) : AtK l r s (Fm.two y hy f g) a (e + 1) := by
  have HEV : Hid (evF s l (Fm.two y hy f g) a = opB 17 (evF s l f a) (evF s l g (a + f.flat.length))) := by unfold Hid; rw [evF, hyo]
  intro V lv sv hS hL hI
  have hmx := hL.max
  have hel := (List.getElem?_eq_some_iff.1 hx).1
  obtain ⟨W1, h1, HB, HS, HF⟩ := boxS hS
  obtain ⟨b, off, c, hv, hbl, a0, a1, a2, a3, a4, a5, a6⟩ := insRow (hL.below instE_keep HB.out) hx
  have HL := Lib.hid (hL.below instE_keep HB.out)
  have HI := Lib.hid (hI.keep HB.out)
  subst hv
  rw [hop] at a0
  obtain ⟨W2, h2, hb2, x2⟩ := box1 W1 #[.int .i64 17, .int .i64 x.l.1, .int .i64 x.l.2, .int .i64 x.r.1, .int .i64 x.r.2, .int .i64 x.n, .int .i64 x.user] 37
  obtain ⟨W3, h3, hb3, x3⟩ := box1 W2 #[.int .i64 (k : Int), .int .i64 (e : Int)] 3
  have hb23 := hb2.trans (hb3.mono hb2.size)
  have HX := Lib.hid (And.intro (x2.keep hb3) x3)
  have HK := Lib.hid (kids_2 (ItIn.keep HI.out hb2) (itI_at hx) (by show arN x.op = 2; rw [hop]; rfl) (by rw [List.length_map]; omega) hk)
  have HB3 := Lib.hid hb23
  have hez : (((e : Int) + 1) : Int) < (l.length : Int) := by omega
  have he0 : (0 : Int) ≤ ((e : Int) + 1) := by omega
  obtain ⟨R, hR⟩ : ∃ R, evF s l (Fm.two y hy f g) a = R := ⟨_, rfl⟩
  have HR := Lib.hid hR
  rw [hR]
  rw [show ((e + 1 : Nat) : Int) = (e : Int) + 1 from rfl]
  have hF := HF.out _ hb23
  unfold StB at hF
  unfold stC at h1
  unfold stC
  obtain ⟨d0, d1, d2, d3, d4⟩ := hF
  clear hk hS hL hI hb2 x2 hb23 hR hx hel hop hb3 x3
  go_enter Tryz.func30, Tryz.ntmps30
  go_wp2_with fail
  refine HK.out.mono ?_
  rintro e3 w3 ⟨rfl, hw⟩
  rw [h3] at hw
  rw [hw]
  clear hw w3
  have g0 := HX.out.1.cell (i := 0) rfl
  have g1 := HX.out.1.cell (i := 1) rfl
  have g2 := HX.out.1.cell (i := 2) rfl
  have g3 := HX.out.1.cell (i := 3) rfl
  have g4 := HX.out.1.cell (i := 4) rfl
  have g5 := HX.out.1.cell (i := 5) rfl
  have g6 := HX.out.1.cell (i := 6) rfl
  have k0 := HX.out.2.cell (i := 0) rfl
  have k1 := HX.out.2.cell (i := 1) rfl

  obtain ⟨t, ht⟩ : ∃ t, evF s l f a = t := ⟨_, rfl⟩
  obtain ⟨u, hu⟩ : ∃ u, evF s l g (a + f.flat.length) = u := ⟨_, rfl⟩
  have HREC : Hid (∀ V', Below W3.heap.size W3 V' → Calls Tryz.prog 30 #[.slice (some ⟨b, off, none⟩) l.length c, sv, .int .i64 (k : Int), .agg #[.slice r.a0 s.vals.length r.k0, .int .i64 s.opn, .int .i64 s.dne, .slice r.a3 s.did.length r.k3, .slice r.a4 s.cnt.length r.k4]] V' (Ret V' (.bool (t)))) := fun V' hV => by
    have h := hF V' _ _ (HS.out.below (HB3.out.trans (hV.mono HB3.out.size))) (HL.out.below instE_keep (HB3.out.trans (hV.mono HB3.out.size))) (ItIn.keep HI.out (HB3.out.trans (hV.mono HB3.out.size)))
    rw [ht] at h
    unfold stC at h
    exact h
  have HRECG : Hid (∀ V', Below W3.heap.size W3 V' → Calls Tryz.prog 30 #[.slice (some ⟨b, off, none⟩) l.length c, sv, .int .i64 (e : Int), .agg #[.slice r.a0 s.vals.length r.k0, .int .i64 s.opn, .int .i64 s.dne, .slice r.a3 s.did.length r.k3, .slice r.a4 s.cnt.length r.k4]] V' (Ret V' (.bool (u)))) := fun V' hV => by
    have h := hG V' _ _ (HS.out.below (HB3.out.trans (hV.mono HB3.out.size))) (HL.out.below instE_keep (HB3.out.trans (hV.mono HB3.out.size))) (ItIn.keep HI.out (HB3.out.trans (hV.mono HB3.out.size)))
    rw [hu] at h
    unfold stC at h
    exact h
  have HEV2 : Hid (R = opB 17 t u) := by unfold Hid; rw [← HR.out, HEV.out, ht, hu]
  clear ht hu hyo
  cases t
  · cases u <;>
    · have HSF : Hid (∀ V', Below W3.heap.size W3 V' → StB V' V.heap.size r s ∧ V'.cell? ⟨W2.heap.size, 0, none⟩ = some (.int .i64 (k : Int)) ∧ V'.cell? ⟨W2.heap.size, 1, none⟩ = some (.int .i64 (e : Int))) := fun V' hV => ⟨HF.out V' (HB3.out.trans (hV.mono HB3.out.size)), (HX.out.2.keep hV).cell rfl, (HX.out.2.keep hV).cell rfl⟩
      go_upto_region 15 with fail
      clear d0 d1 d2 d3 d4 g0 g1 g2 g3 g4 g5 g6
      have hbz : Below W3.heap.size W3 W3.drew := (Below.refl _ _).drew
      refine startH (S := fun V' => StB V' V.heap.size r s ∧ V'.cell? ⟨W2.heap.size, 0, none⟩ = some (.int .i64 (k : Int)) ∧ V'.cell? ⟨W2.heap.size, 1, none⟩ = some (.int .i64 (e : Int))) (by kernel_rfl) (HSF.out _ hbz) (fun hHeld => ?_)
      refine takesH [0, 1, 2, 3, 4, 5] (by kernel_rfl) (fun _ _ d _ _ h => by cases d <;> exact h) (by kernel_rfl) (by kernel_rfl) (by assumption) ?_
      repeat (first
        | (refine TakeSeq.cons (v := ?_) rfl (by rfl) ?_ ?_
           rotate_left
           · ((intro w hSw; unfold StB at hSw; go_simp) <;> (try with_reducible rfl))
           (try go_simp))
        | (refine TakeSeq.skip rfl (by rfl) ?_; (try go_simp)))
      refine TakeSeq.nil ?_
      refine callH 6 (by kernel_rfl) (by kernel_rfl) rfl (by rfl) ?_
      intro K hK
      go_simp
      go_at_call 30
      with_reducible refine (HREC.out _ hbz).mono ?_
      rintro e10 w10 ⟨rfl, hbn⟩
      have hbz := hbz.trans (hbn.mono hbz.size)
      refine hK.out _ _ (HSF.out _ hbz) (fun hHeld => ?_)
      clear hK K hbn
      (try go_simp)
      refine takesH [7, 8, 9, 10, 11, 12, 13] (by kernel_rfl) (fun _ _ d _ _ h => by cases d <;> exact h) (by kernel_rfl) (by kernel_rfl) (by assumption) ?_
      repeat (first
        | (refine TakeSeq.cons (v := ?_) rfl (by rfl) ?_ ?_
           rotate_left
           · ((intro w hSw; unfold StB at hSw; go_simp) <;> (try with_reducible rfl))
           (try go_simp))
        | (refine TakeSeq.skip rfl (by rfl) ?_; (try go_simp)))
      refine TakeSeq.nil ?_
      refine callH 14 (by kernel_rfl) (by kernel_rfl) rfl (by rfl) ?_
      intro K hK
      go_simp
      go_at_call 30
      with_reducible refine (HRECG.out _ hbz).mono ?_
      rintro e11 w11 ⟨rfl, hbn⟩
      have hbz := hbz.trans (hbn.mono hbz.size)
      refine hK.out _ _ (HSF.out _ hbz) (fun hHeld => ?_)
      clear hK K hbn
      (try go_simp)
      refine takesH [15, 16] (by kernel_rfl) (fun _ _ d _ _ h => by cases d <;> exact h) (by kernel_rfl) (by kernel_rfl) (by assumption) ?_
      repeat (first
        | (refine TakeSeq.cons (v := ?_) rfl (by rfl) ?_ ?_
           rotate_left
           · ((intro w hSw; unfold StB at hSw; go_simp) <;> (try with_reducible rfl))
           (try go_simp))
        | (refine TakeSeq.skip rfl (by rfl) ?_; (try go_simp)))
      refine TakeSeq.nil ?_
      refine doneH (by kernel_rfl) ?_
      go_wp2
      go_ret
      exact ⟨ret_bool ((by rw [HEV2.out]; rfl)), HB.out.trans ((HB3.out.trans (hbz.mono HB3.out.size)).mono HB.out.size)⟩
  · have HSF : Hid (∀ V', Below W3.heap.size W3 V' → StB V' V.heap.size r s ∧ V'.cell? ⟨W2.heap.size, 0, none⟩ = some (.int .i64 (k : Int)) ∧ V'.cell? ⟨W2.heap.size, 1, none⟩ = some (.int .i64 (e : Int))) := fun V' hV => ⟨HF.out V' (HB3.out.trans (hV.mono HB3.out.size)), (HX.out.2.keep hV).cell rfl, (HX.out.2.keep hV).cell rfl⟩
    go_upto_region 15 with fail
    clear d0 d1 d2 d3 d4 g0 g1 g2 g3 g4 g5 g6
    have hbz : Below W3.heap.size W3 W3.drew := (Below.refl _ _).drew
    refine startH (S := fun V' => StB V' V.heap.size r s ∧ V'.cell? ⟨W2.heap.size, 0, none⟩ = some (.int .i64 (k : Int)) ∧ V'.cell? ⟨W2.heap.size, 1, none⟩ = some (.int .i64 (e : Int))) (by kernel_rfl) (HSF.out _ hbz) (fun hHeld => ?_)
    refine takesH [0, 1, 2, 3, 4, 5] (by kernel_rfl) (fun _ _ d _ _ h => by cases d <;> exact h) (by kernel_rfl) (by kernel_rfl) (by assumption) ?_
    repeat (first
      | (refine TakeSeq.cons (v := ?_) rfl (by rfl) ?_ ?_
         rotate_left
         · ((intro w hSw; unfold StB at hSw; go_simp) <;> (try with_reducible rfl))
         (try go_simp))
      | (refine TakeSeq.skip rfl (by rfl) ?_; (try go_simp)))
    refine TakeSeq.nil ?_
    refine callH 6 (by kernel_rfl) (by kernel_rfl) rfl (by rfl) ?_
    intro K hK
    go_simp
    go_at_call 30
    with_reducible refine (HREC.out _ hbz).mono ?_
    rintro e10 w10 ⟨rfl, hbn⟩
    have hbz := hbz.trans (hbn.mono hbz.size)
    refine hK.out _ _ (HSF.out _ hbz) (fun hHeld => ?_)
    clear hK K hbn
    (try go_simp)
    refine takesH [7, 8, 9, 10, 11, 12, 13, 14, 15, 16] (by kernel_rfl) (fun _ _ d _ _ h => by cases d <;> exact h) (by kernel_rfl) (by kernel_rfl) (by assumption) ?_
    repeat (first
      | (refine TakeSeq.cons (v := ?_) rfl (by rfl) ?_ ?_
         rotate_left
         · ((intro w hSw; unfold StB at hSw; go_simp) <;> (try with_reducible rfl))
         (try go_simp))
      | (refine TakeSeq.skip rfl (by rfl) ?_; (try go_simp)))
    refine TakeSeq.nil ?_
    refine doneH (by kernel_rfl) ?_
    go_wp2
    go_ret
    exact ⟨ret_bool ((by rw [HEV2.out]; cases u <;> rfl)), HB.out.trans ((HB3.out.trans (hbz.mono HB3.out.size)).mono HB.out.size)⟩

set_option maxRecDepth 100000 in
set_option maxHeartbeats 4000000 in
theorem at_18 {l : List Ins} {r : Stm} {s : Sta} {y : It} {f g : Fm} {hy : arN y.op = 2} {a e k : Nat} {x : Ins} (hx : l[e + 1]? = some x) (hl64 : l.length ≤ 64) (hop : x.op = 18) (hyo : y.op = 18) (hk : begB (l.map itI) (e + 1) 1 = (k : Int) + 1) (hF : AtK l r s f a k) (hG : AtK l r s g (a + f.flat.length) e) : AtK l r s (Fm.two y hy f g) a (e + 1) := by
  have HEV : Hid (evF s l (Fm.two y hy f g) a = opB 18 (evF s l f a) (evF s l g (a + f.flat.length))) := by unfold Hid; rw [evF, hyo]
  intro V lv sv hS hL hI
  have hmx := hL.max
  have hel := (List.getElem?_eq_some_iff.1 hx).1
  obtain ⟨W1, h1, HB, HS, HF⟩ := boxS hS
  obtain ⟨b, off, c, hv, hbl, a0, a1, a2, a3, a4, a5, a6⟩ := insRow (hL.below instE_keep HB.out) hx
  have HL := Lib.hid (hL.below instE_keep HB.out)
  have HI := Lib.hid (hI.keep HB.out)
  subst hv
  rw [hop] at a0
  obtain ⟨W2, h2, hb2, x2⟩ := box1 W1 #[.int .i64 18, .int .i64 x.l.1, .int .i64 x.l.2, .int .i64 x.r.1, .int .i64 x.r.2, .int .i64 x.n, .int .i64 x.user] 37
  obtain ⟨W3, h3, hb3, x3⟩ := box1 W2 #[.int .i64 (k : Int), .int .i64 (e : Int)] 3
  have hb23 := hb2.trans (hb3.mono hb2.size)
  have HX := Lib.hid (And.intro (x2.keep hb3) x3)
  have HK := Lib.hid (kids_2 (ItIn.keep HI.out hb2) (itI_at hx) (by show arN x.op = 2; rw [hop]; rfl) (by rw [List.length_map]; omega) hk)
  have HB3 := Lib.hid hb23
  have hez : (((e : Int) + 1) : Int) < (l.length : Int) := by omega
  have he0 : (0 : Int) ≤ ((e : Int) + 1) := by omega
  obtain ⟨R, hR⟩ : ∃ R, evF s l (Fm.two y hy f g) a = R := ⟨_, rfl⟩
  have HR := Lib.hid hR
  rw [hR]
  rw [show ((e + 1 : Nat) : Int) = (e : Int) + 1 from rfl]
  have hF := HF.out _ hb23
  unfold StB at hF
  unfold stC at h1
  unfold stC
  obtain ⟨d0, d1, d2, d3, d4⟩ := hF
  clear hk hS hL hI hb2 x2 hb23 hR hx hel hop hb3 x3
  go_enter Tryz.func30, Tryz.ntmps30
  go_wp2_with fail
  refine HK.out.mono ?_
  rintro e3 w3 ⟨rfl, hw⟩
  rw [h3] at hw
  rw [hw]
  clear hw w3
  have g0 := HX.out.1.cell (i := 0) rfl
  have g1 := HX.out.1.cell (i := 1) rfl
  have g2 := HX.out.1.cell (i := 2) rfl
  have g3 := HX.out.1.cell (i := 3) rfl
  have g4 := HX.out.1.cell (i := 4) rfl
  have g5 := HX.out.1.cell (i := 5) rfl
  have g6 := HX.out.1.cell (i := 6) rfl
  have k0 := HX.out.2.cell (i := 0) rfl
  have k1 := HX.out.2.cell (i := 1) rfl

  obtain ⟨t, ht⟩ : ∃ t, evF s l f a = t := ⟨_, rfl⟩
  obtain ⟨u, hu⟩ : ∃ u, evF s l g (a + f.flat.length) = u := ⟨_, rfl⟩
  have HREC : Hid (∀ V', Below W3.heap.size W3 V' → Calls Tryz.prog 30 #[.slice (some ⟨b, off, none⟩) l.length c, sv, .int .i64 (k : Int), .agg #[.slice r.a0 s.vals.length r.k0, .int .i64 s.opn, .int .i64 s.dne, .slice r.a3 s.did.length r.k3, .slice r.a4 s.cnt.length r.k4]] V' (Ret V' (.bool (t)))) := fun V' hV => by
    have h := hF V' _ _ (HS.out.below (HB3.out.trans (hV.mono HB3.out.size))) (HL.out.below instE_keep (HB3.out.trans (hV.mono HB3.out.size))) (ItIn.keep HI.out (HB3.out.trans (hV.mono HB3.out.size)))
    rw [ht] at h
    unfold stC at h
    exact h
  have HRECG : Hid (∀ V', Below W3.heap.size W3 V' → Calls Tryz.prog 30 #[.slice (some ⟨b, off, none⟩) l.length c, sv, .int .i64 (e : Int), .agg #[.slice r.a0 s.vals.length r.k0, .int .i64 s.opn, .int .i64 s.dne, .slice r.a3 s.did.length r.k3, .slice r.a4 s.cnt.length r.k4]] V' (Ret V' (.bool (u)))) := fun V' hV => by
    have h := hG V' _ _ (HS.out.below (HB3.out.trans (hV.mono HB3.out.size))) (HL.out.below instE_keep (HB3.out.trans (hV.mono HB3.out.size))) (ItIn.keep HI.out (HB3.out.trans (hV.mono HB3.out.size)))
    rw [hu] at h
    unfold stC at h
    exact h
  have HEV2 : Hid (R = opB 18 t u) := by unfold Hid; rw [← HR.out, HEV.out, ht, hu]
  clear ht hu hyo
  cases t
  · have HSF : Hid (∀ V', Below W3.heap.size W3 V' → StB V' V.heap.size r s ∧ V'.cell? ⟨W2.heap.size, 0, none⟩ = some (.int .i64 (k : Int)) ∧ V'.cell? ⟨W2.heap.size, 1, none⟩ = some (.int .i64 (e : Int))) := fun V' hV => ⟨HF.out V' (HB3.out.trans (hV.mono HB3.out.size)), (HX.out.2.keep hV).cell rfl, (HX.out.2.keep hV).cell rfl⟩
    go_upto_region 17 with fail
    clear d0 d1 d2 d3 d4 g0 g1 g2 g3 g4 g5 g6
    have hbz : Below W3.heap.size W3 W3.drew := (Below.refl _ _).drew
    refine startH (S := fun V' => StB V' V.heap.size r s ∧ V'.cell? ⟨W2.heap.size, 0, none⟩ = some (.int .i64 (k : Int)) ∧ V'.cell? ⟨W2.heap.size, 1, none⟩ = some (.int .i64 (e : Int))) (by kernel_rfl) (HSF.out _ hbz) (fun hHeld => ?_)
    refine takesH [0, 1, 2, 3, 4, 5] (by kernel_rfl) (fun _ _ d _ _ h => by cases d <;> exact h) (by kernel_rfl) (by kernel_rfl) (by assumption) ?_
    repeat (first
      | (refine TakeSeq.cons (v := ?_) rfl (by rfl) ?_ ?_
         rotate_left
         · ((intro w hSw; unfold StB at hSw; go_simp) <;> (try with_reducible rfl))
         (try go_simp))
      | (refine TakeSeq.skip rfl (by rfl) ?_; (try go_simp)))
    refine TakeSeq.nil ?_
    refine callH 6 (by kernel_rfl) (by kernel_rfl) rfl (by rfl) ?_
    intro K hK
    go_simp
    go_at_call 30
    with_reducible refine (HREC.out _ hbz).mono ?_
    rintro e10 w10 ⟨rfl, hbn⟩
    have hbz := hbz.trans (hbn.mono hbz.size)
    refine hK.out _ _ (HSF.out _ hbz) (fun hHeld => ?_)
    clear hK K hbn
    (try go_simp)
    refine takesH [7, 8, 9, 10, 11, 12, 13, 14, 15, 16, 17] (by kernel_rfl) (fun _ _ d _ _ h => by cases d <;> exact h) (by kernel_rfl) (by kernel_rfl) (by assumption) ?_
    repeat (first
      | (refine TakeSeq.cons (v := ?_) rfl (by rfl) ?_ ?_
         rotate_left
         · ((intro w hSw; unfold StB at hSw; go_simp) <;> (try with_reducible rfl))
         (try go_simp))
      | (refine TakeSeq.skip rfl (by rfl) ?_; (try go_simp)))
    refine TakeSeq.nil ?_
    refine doneH (by kernel_rfl) ?_
    go_wp2
    go_ret
    exact ⟨ret_bool ((by rw [HEV2.out]; cases u <;> rfl)), HB.out.trans ((HB3.out.trans (hbz.mono HB3.out.size)).mono HB.out.size)⟩
  · cases u <;>
    · have HSF : Hid (∀ V', Below W3.heap.size W3 V' → StB V' V.heap.size r s ∧ V'.cell? ⟨W2.heap.size, 0, none⟩ = some (.int .i64 (k : Int)) ∧ V'.cell? ⟨W2.heap.size, 1, none⟩ = some (.int .i64 (e : Int))) := fun V' hV => ⟨HF.out V' (HB3.out.trans (hV.mono HB3.out.size)), (HX.out.2.keep hV).cell rfl, (HX.out.2.keep hV).cell rfl⟩
      go_upto_region 17 with fail
      clear d0 d1 d2 d3 d4 g0 g1 g2 g3 g4 g5 g6
      have hbz : Below W3.heap.size W3 W3.drew := (Below.refl _ _).drew
      refine startH (S := fun V' => StB V' V.heap.size r s ∧ V'.cell? ⟨W2.heap.size, 0, none⟩ = some (.int .i64 (k : Int)) ∧ V'.cell? ⟨W2.heap.size, 1, none⟩ = some (.int .i64 (e : Int))) (by kernel_rfl) (HSF.out _ hbz) (fun hHeld => ?_)
      refine takesH [0, 1, 2, 3, 4, 5] (by kernel_rfl) (fun _ _ d _ _ h => by cases d <;> exact h) (by kernel_rfl) (by kernel_rfl) (by assumption) ?_
      repeat (first
        | (refine TakeSeq.cons (v := ?_) rfl (by rfl) ?_ ?_
           rotate_left
           · ((intro w hSw; unfold StB at hSw; go_simp) <;> (try with_reducible rfl))
           (try go_simp))
        | (refine TakeSeq.skip rfl (by rfl) ?_; (try go_simp)))
      refine TakeSeq.nil ?_
      refine callH 6 (by kernel_rfl) (by kernel_rfl) rfl (by rfl) ?_
      intro K hK
      go_simp
      go_at_call 30
      with_reducible refine (HREC.out _ hbz).mono ?_
      rintro e10 w10 ⟨rfl, hbn⟩
      have hbz := hbz.trans (hbn.mono hbz.size)
      refine hK.out _ _ (HSF.out _ hbz) (fun hHeld => ?_)
      clear hK K hbn
      (try go_simp)
      refine takesH [7, 8, 9, 10, 11, 12, 13, 14] (by kernel_rfl) (fun _ _ d _ _ h => by cases d <;> exact h) (by kernel_rfl) (by kernel_rfl) (by assumption) ?_
      repeat (first
        | (refine TakeSeq.cons (v := ?_) rfl (by rfl) ?_ ?_
           rotate_left
           · ((intro w hSw; unfold StB at hSw; go_simp) <;> (try with_reducible rfl))
           (try go_simp))
        | (refine TakeSeq.skip rfl (by rfl) ?_; (try go_simp)))
      refine TakeSeq.nil ?_
      refine callH 15 (by kernel_rfl) (by kernel_rfl) rfl (by rfl) ?_
      intro K hK
      go_simp
      go_at_call 30
      with_reducible refine (HRECG.out _ hbz).mono ?_
      rintro e11 w11 ⟨rfl, hbn⟩
      have hbz := hbz.trans (hbn.mono hbz.size)
      refine hK.out _ _ (HSF.out _ hbz) (fun hHeld => ?_)
      clear hK K hbn
      (try go_simp)
      refine takesH [16, 17] (by kernel_rfl) (fun _ _ d _ _ h => by cases d <;> exact h) (by kernel_rfl) (by kernel_rfl) (by assumption) ?_
      repeat (first
        | (refine TakeSeq.cons (v := ?_) rfl (by rfl) ?_ ?_
           rotate_left
           · ((intro w hSw; unfold StB at hSw; go_simp) <;> (try with_reducible rfl))
           (try go_simp))
        | (refine TakeSeq.skip rfl (by rfl) ?_; (try go_simp)))
      refine TakeSeq.nil ?_
      refine doneH (by kernel_rfl) ?_
      go_wp2
      go_ret
      exact ⟨ret_bool ((by rw [HEV2.out]; rfl)), HB.out.trans ((HB3.out.trans (hbz.mono HB3.out.size)).mono HB.out.size)⟩
end Go.Proofs.YtadjnfpomjopkaaGreat
