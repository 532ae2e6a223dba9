/- The reference: At, Holds (printed by gen_r9.py). -/
import Derived.Test.YtadjnfpomjopkaaGreatSm28

namespace Go.Proofs.YtadjnfpomjopkaaGreat
open Go.RowKit

/-- the part of f that ends at e is asked -/
def AtK (l : List Ins) (r : Stm) (s : Sta) (f : Fm) (a e : Nat) : Prop := ∀ (V : World) (lv sv : Value), StQ V r s → RowE instE 7 V lv l → ItIn V sv (l.map itI) → Calls Tryz.prog 30 #[lv, sv, .int .i64 (e : Int), .agg (stC r s)] V (Ret V (.bool (evF s l f a)))
theorem itI_at {l : List Ins} {e : Nat} {x : Ins} (hx : l[e]? = some x) : (l.map itI)[e]? = some (itI x) := by rw [List.getElem?_map, hx]; rfl

set_option maxRecDepth 100000 in
set_option maxHeartbeats 2000000 in
theorem at_1 {l : List Ins} {r : Stm} {s : Sta} {y : It} {hy : arN y.op = 0} {a : Nat} {x : Ins} (hx : l[a]? = some x) (hop : x.op = 1) : AtK l r s (Fm.leaf y hy) a a := by
  have HEV : Hid (evF s l (Fm.leaf y hy) a = true) := by
    unfold Hid
    rw [evF, insAt_of hx]
    unfold atomI
    rw [hop, if_pos (by omega)]
  intro V lv sv hS hL hI
  have hmx := hL.max
  have hel := (List.getElem?_eq_some_iff.1 hx).1
  obtain ⟨W1, h1, HB, HS, HF⟩ := boxS hS
  obtain ⟨b, off, c, hv, hbl, a0, a1, a2, a3, a4, a5, a6⟩ := insRow (hL.below instE_keep HB.out) hx
  have HL := Lib.hid (hL.below instE_keep HB.out)
  have HI := Lib.hid (hI.keep HB.out)
  subst hv
  rw [hop] at a0
  obtain ⟨W2, h2, hb2, x2⟩ := box1 W1 #[.int .i64 1, .int .i64 x.l.1, .int .i64 x.l.2, .int .i64 x.r.1, .int .i64 x.r.2, .int .i64 x.n, .int .i64 x.user] 37
  have hb23 := hb2
  have HX := Lib.hid (And.intro x2 x2)
  have HK := Lib.hid (kids_0 (ItIn.keep HI.out hb2) (itI_at hx) (by show arN x.op = 0; rw [hop]; rfl))
  have HB3 := Lib.hid hb23
  have hez : ((a : Int) : Int) < (l.length : Int) := by omega
  have he0 : (0 : Int) ≤ (a : Int) := by omega
  obtain ⟨R, hR⟩ : ∃ R, evF s l (Fm.leaf y hy) a = R := ⟨_, rfl⟩
  have HR := Lib.hid hR
  rw [hR]
  have hF := HF.out _ hb23
  unfold StB at hF
  unfold stC at h1
  unfold stC
  obtain ⟨d0, d1, d2, d3, d4⟩ := hF
  clear hS hL hI hb2 x2 hb23 hR hx hel hop 
  go_enter Tryz.func30, Tryz.ntmps30
  go_wp2_with fail
  refine HK.out.mono ?_
  rintro e3 w3 ⟨rfl, hw⟩
  rw [hw]
  clear hw w3
  have g0 := HX.out.1.cell (i := 0) rfl
  have g1 := HX.out.1.cell (i := 1) rfl
  have g2 := HX.out.1.cell (i := 2) rfl
  have g3 := HX.out.1.cell (i := 3) rfl
  have g4 := HX.out.1.cell (i := 4) rfl
  have g5 := HX.out.1.cell (i := 5) rfl
  have g6 := HX.out.1.cell (i := 6) rfl
  go_wp2
  go_ret
  exact ⟨ret_bool (HR.out.symm.trans HEV.out |>.symm), HB.out.trans (HB3.out.mono HB.out.size)⟩

set_option maxRecDepth 100000 in
set_option maxHeartbeats 2000000 in
theorem at_2 {l : List Ins} {r : Stm} {s : Sta} {y : It} {hy : arN y.op = 0} {a : Nat} {x : Ins} (hx : l[a]? = some x) (hop : x.op = 2) : AtK l r s (Fm.leaf y hy) a a := by
  have HEV : Hid (evF s l (Fm.leaf y hy) a = false) := by
    unfold Hid
    rw [evF, insAt_of hx]
    unfold atomI
    rw [hop, if_neg (by omega), if_pos (by omega)]
  intro V lv sv hS hL hI
  have hmx := hL.max
  have hel := (List.getElem?_eq_some_iff.1 hx).1
  obtain ⟨W1, h1, HB, HS, HF⟩ := boxS hS
  obtain ⟨b, off, c, hv, hbl, a0, a1, a2, a3, a4, a5, a6⟩ := insRow (hL.below instE_keep HB.out) hx
  have HL := Lib.hid (hL.below instE_keep HB.out)
  have HI := Lib.hid (hI.keep HB.out)
  subst hv
  rw [hop] at a0
  obtain ⟨W2, h2, hb2, x2⟩ := box1 W1 #[.int .i64 2, .int .i64 x.l.1, .int .i64 x.l.2, .int .i64 x.r.1, .int .i64 x.r.2, .int .i64 x.n, .int .i64 x.user] 37
  have hb23 := hb2
  have HX := Lib.hid (And.intro x2 x2)
  have HK := Lib.hid (kids_0 (ItIn.keep HI.out hb2) (itI_at hx) (by show arN x.op = 0; rw [hop]; rfl))
  have HB3 := Lib.hid hb23
  have hez : ((a : Int) : Int) < (l.length : Int) := by omega
  have he0 : (0 : Int) ≤ (a : Int) := by omega
  obtain ⟨R, hR⟩ : ∃ R, evF s l (Fm.leaf y hy) a = R := ⟨_, rfl⟩
  have HR := Lib.hid hR
  rw [hR]
  have hF := HF.out _ hb23
  unfold StB at hF
  unfold stC at h1
  unfold stC
  obtain ⟨d0, d1, d2, d3, d4⟩ := hF
  clear hS hL hI hb2 x2 hb23 hR hx hel hop 
  go_enter Tryz.func30, Tryz.ntmps30
  go_wp2_with fail
  refine HK.out.mono ?_
  rintro e3 w3 ⟨rfl, hw⟩
  rw [hw]
  clear hw w3
  have g0 := HX.out.1.cell (i := 0) rfl
  have g1 := HX.out.1.cell (i := 1) rfl
  have g2 := HX.out.1.cell (i := 2) rfl
  have g3 := HX.out.1.cell (i := 3) rfl
  have g4 := HX.out.1.cell (i := 4) rfl
  have g5 := HX.out.1.cell (i := 5) rfl
  have g6 := HX.out.1.cell (i := 6) rfl
  go_wp2
  go_ret
  exact ⟨ret_bool (HR.out.symm.trans HEV.out |>.symm), HB.out.trans (HB3.out.mono HB.out.size)⟩

set_option maxRecDepth 100000 in
set_option maxHeartbeats 2000000 in
theorem at_9 {l : List Ins} {r : Stm} {s : Sta} {y : It} {hy : arN y.op = 0} {a : Nat} {x : Ins} (hx : l[a]? = some x) (hsk : SOK s) (hop : x.op = 9) : AtK l r s (Fm.leaf y hy) a a := by
  have HEV : Hid (evF s l (Fm.leaf y hy) a = hasB s.opn x.n) := by
    unfold Hid
    rw [evF, insAt_of hx]
    unfold atomI
    rw [hop, if_neg (by omega), if_neg (by omega), if_neg (by omega), if_pos (by omega)]
  have HHA := Lib.hid (fun (i : Int) V => rhasN hsk.opn i V)
  intro V lv sv hS hL hI
  have hmx := hL.max
  have hel := (List.getElem?_eq_some_iff.1 hx).1
  obtain ⟨W1, h1, HB, HS, HF⟩ := boxS hS
  obtain ⟨b, off, c, hv, hbl, a0, a1, a2, a3, a4, a5, a6⟩ := insRow (hL.below instE_keep HB.out) hx
  have HL := Lib.hid (hL.below instE_keep HB.out)
  have HI := Lib.hid (hI.keep HB.out)
  subst hv
  rw [hop] at a0
  obtain ⟨W2, h2, hb2, x2⟩ := box1 W1 #[.int .i64 9, .int .i64 x.l.1, .int .i64 x.l.2, .int .i64 x.r.1, .int .i64 x.r.2, .int .i64 x.n, .int .i64 x.user] 37
  have hb23 := hb2
  have HX := Lib.hid (And.intro x2 x2)
  have HK := Lib.hid (kids_0 (ItIn.keep HI.out hb2) (itI_at hx) (by show arN x.op = 0; rw [hop]; rfl))
  have HB3 := Lib.hid hb23
  have hez : ((a : Int) : Int) < (l.length : Int) := by omega
  have he0 : (0 : Int) ≤ (a : Int) := by omega
  obtain ⟨R, hR⟩ : ∃ R, evF s l (Fm.leaf y hy) a = R := ⟨_, rfl⟩
  have HR := Lib.hid hR
  rw [hR]
  have hF := HF.out _ hb23
  unfold StB at hF
  unfold stC at h1
  unfold stC
  obtain ⟨d0, d1, d2, d3, d4⟩ := hF
  clear hS hL hI hb2 x2 hb23 hR hx hel hop 
  go_enter Tryz.func30, Tryz.ntmps30
  go_wp2_with fail
  refine HK.out.mono ?_
  rintro e3 w3 ⟨rfl, hw⟩
  rw [hw]
  clear hw w3
  have g0 := HX.out.1.cell (i := 0) rfl
  have g1 := HX.out.1.cell (i := 1) rfl
  have g2 := HX.out.1.cell (i := 2) rfl
  have g3 := HX.out.1.cell (i := 3) rfl
  have g4 := HX.out.1.cell (i := 4) rfl
  have g5 := HX.out.1.cell (i := 5) rfl
  have g6 := HX.out.1.cell (i := 6) rfl
  go_wp2_with fail
  refine (HHA.out _ _).mono ?_
  rintro e4 w4 ⟨rfl, rfl⟩
  go_wp2
  go_ret
  exact ⟨ret_bool (HR.out.symm.trans HEV.out |>.symm), HB.out.trans (HB3.out.mono HB.out.size)⟩

set_option maxRecDepth 100000 in
set_option maxHeartbeats 2000000 in
theorem at_10 {l : List Ins} {r : Stm} {s : Sta} {y : It} {hy : arN y.op = 0} {a : Nat} {x : Ins} (hx : l[a]? = some x) (hsk : SOK s) (hop : x.op = 10) : AtK l r s (Fm.leaf y hy) a a := by
  have HEV : Hid (evF s l (Fm.leaf y hy) a = hasB s.dne x.n) := by
    unfold Hid
    rw [evF, insAt_of hx]
    unfold atomI
    rw [hop, if_neg (by omega), if_neg (by omega), if_neg (by omega), if_neg (by omega), if_pos (by omega)]
  have HHA := Lib.hid (fun (i : Int) V => rhasN hsk.dne i V)
  intro V lv sv hS hL hI
  have hmx := hL.max
  have hel := (List.getElem?_eq_some_iff.1 hx).1
  obtain ⟨W1, h1, HB, HS, HF⟩ := boxS hS
  obtain ⟨b, off, c, hv, hbl, a0, a1, a2, a3, a4, a5, a6⟩ := insRow (hL.below instE_keep HB.out) hx
  have HL := Lib.hid (hL.below instE_keep HB.out)
  have HI := Lib.hid (hI.keep HB.out)
  subst hv
  rw [hop] at a0
  obtain ⟨W2, h2, hb2, x2⟩ := box1 W1 #[.int .i64 10, .int .i64 x.l.1, .int .i64 x.l.2, .int .i64 x.r.1, .int .i64 x.r.2, .int .i64 x.n, .int .i64 x.user] 37
  have hb23 := hb2
  have HX := Lib.hid (And.intro x2 x2)
  have HK := Lib.hid (kids_0 (ItIn.keep HI.out hb2) (itI_at hx) (by show arN x.op = 0; rw [hop]; rfl))
  have HB3 := Lib.hid hb23
  have hez : ((a : Int) : Int) < (l.length : Int) := by omega
  have he0 : (0 : Int) ≤ (a : Int) := by omega
  obtain ⟨R, hR⟩ : ∃ R, evF s l (Fm.leaf y hy) a = R := ⟨_, rfl⟩
  have HR := Lib.hid hR
  rw [hR]
  have hF := HF.out _ hb23
  unfold StB at hF
  unfold stC at h1
  unfold stC
  obtain ⟨d0, d1, d2, d3, d4⟩ := hF
  clear hS hL hI hb2 x2 hb23 hR hx hel hop 
  go_enter Tryz.func30, Tryz.ntmps30
  go_wp2_with fail
  refine HK.out.mono ?_
  rintro e3 w3 ⟨rfl, hw⟩
  rw [hw]
  clear hw w3
  have g0 := HX.out.1.cell (i := 0) rfl
  have g1 := HX.out.1.cell (i := 1) rfl
  have g2 := HX.out.1.cell (i := 2) rfl
  have g3 := HX.out.1.cell (i := 3) rfl
  have g4 := HX.out.1.cell (i := 4) rfl
  have g5 := HX.out.1.cell (i := 5) rfl
  have g6 := HX.out.1.cell (i := 6) rfl
  go_wp2_with fail
  refine (HHA.out _ _).mono ?_
  rintro e4 w4 ⟨rfl, rfl⟩
  go_wp2
  go_ret
  exact ⟨ret_bool (HR.out.symm.trans HEV.out |>.symm), HB.out.trans (HB3.out.mono HB.out.size)⟩

set_option maxRecDepth 100000 in
set_option maxHeartbeats 2000000 in
theorem at_3 {l : List Ins} {r : Stm} {s : Sta} {y : It} {hy : arN y.op = 0} {a : Nat} {x : Ins} (hx : l[a]? = some x) (htl : thereV s x.l = true) (htr : thereV s x.r = true) (hop : x.op = 3) : AtK l r s (Fm.leaf y hy) a a := by
  have HEV : Hid (evF s l (Fm.leaf y hy) a = cmpB 3 (valV s x.l) (valV s x.r)) := by
    unfold Hid
    rw [evF, insAt_of hx]
    unfold atomI
    rw [hop, if_neg (by omega), if_neg (by omega), if_pos (by omega), htl, htr, Bool.and_true, if_pos rfl]
  intro V lv sv hS hL hI
  have hmx := hL.max
  have hel := (List.getElem?_eq_some_iff.1 hx).1
  obtain ⟨W1, h1, HB, HS, HF⟩ := boxS hS
  obtain ⟨b, off, c, hv, hbl, a0, a1, a2, a3, a4, a5, a6⟩ := insRow (hL.below instE_keep HB.out) hx
  have HL := Lib.hid (hL.below instE_keep HB.out)
  have HI := Lib.hid (hI.keep HB.out)
  subst hv
  rw [hop] at a0
  obtain ⟨W2, h2, hb2, x2⟩ := box1 W1 #[.int .i64 3, .int .i64 x.l.1, .int .i64 x.l.2, .int .i64 x.r.1, .int .i64 x.r.2, .int .i64 x.n, .int .i64 x.user] 37
  have hb23 := hb2
  have HX := Lib.hid (And.intro x2 x2)
  have HK := Lib.hid (kids_0 (ItIn.keep HI.out hb2) (itI_at hx) (by show arN x.op = 0; rw [hop]; rfl))
  have HB3 := Lib.hid hb23
  have hez : ((a : Int) : Int) < (l.length : Int) := by omega
  have he0 : (0 : Int) ≤ (a : Int) := by omega
  obtain ⟨R, hR⟩ : ∃ R, evF s l (Fm.leaf y hy) a = R := ⟨_, rfl⟩
  have HR := Lib.hid hR
  rw [hR]
  have hF := HF.out _ hb23
  unfold StB at hF
  unfold stC at h1
  unfold stC
  obtain ⟨d0, d1, d2, d3, d4⟩ := hF
  clear hS hL hI hb2 x2 hb23 hR hx hel hop 
  go_enter Tryz.func30, Tryz.ntmps30
  go_wp2_with fail
  refine HK.out.mono ?_
  rintro e3 w3 ⟨rfl, hw⟩
  rw [hw]
  clear hw w3
  have g0 := HX.out.1.cell (i := 0) rfl
  have g1 := HX.out.1.cell (i := 1) rfl
  have g2 := HX.out.1.cell (i := 2) rfl
  have g3 := HX.out.1.cell (i := 3) rfl
  have g4 := HX.out.1.cell (i := 4) rfl
  have g5 := HX.out.1.cell (i := 5) rfl
  have g6 := HX.out.1.cell (i := 6) rfl
  have HSF : Hid (∀ V', Below W2.heap.size W2 V' → StB V' V.heap.size r s ∧ V'.cell? ⟨W1.heap.size, 0, none⟩ = some (.int .i64 3) ∧ V'.cell? ⟨W1.heap.size, 1, none⟩ = some (.int .i64 x.l.1) ∧ V'.cell? ⟨W1.heap.size, 2, none⟩ = some (.int .i64 x.l.2) ∧ V'.cell? ⟨W1.heap.size, 3, none⟩ = some (.int .i64 x.r.1) ∧ V'.cell? ⟨W1.heap.size, 4, none⟩ = some (.int .i64 x.r.2)) := fun V' hV => ⟨HF.out V' (HB3.out.trans (hV.mono HB3.out.size)), (HX.out.1.keep hV).cell rfl, (HX.out.1.keep hV).cell rfl, (HX.out.1.keep hV).cell rfl, (HX.out.1.keep hV).cell rfl, (HX.out.1.keep hV).cell rfl⟩
  have HSS : Hid (∀ V', Below W2.heap.size W2 V' → StQ V' r s) := fun V' hV => HS.out.below (HB3.out.trans (hV.mono HB3.out.size))
  have HVL : Hid (∀ V', Below W2.heap.size W2 V' → Calls Tryz.prog 45 #[.agg #[.slice r.a0 s.vals.length r.k0, .int .i64 s.opn, .int .i64 s.dne, .slice r.a3 s.did.length r.k3, .slice r.a4 s.cnt.length r.k4], .agg #[.int .i64 x.l.1, .int .i64 x.l.2]] V' (Ret V' (.int .i64 (valV s x.l)))) := fun V' hV => rvalQ (HSS.out V' hV) x.l htl
  have HVR : Hid (∀ V', Below W2.heap.size W2 V' → Calls Tryz.prog 45 #[.agg #[.slice r.a0 s.vals.length r.k0, .int .i64 s.opn, .int .i64 s.dne, .slice r.a3 s.did.length r.k3, .slice r.a4 s.cnt.length r.k4], .agg #[.int .i64 x.r.1, .int .i64 x.r.2]] V' (Ret V' (.int .i64 (valV s x.r)))) := fun V' hV => rvalQ (HSS.out V' hV) x.r htr
  clear htl htr
  go_upto_region 24 with fail
  clear d0 d1 d2 d3 d4 g0 g1 g2 g3 g4 g5 g6
  have hbz : Below W2.heap.size W2 W2.drew := (Below.refl _ _).drew
  refine startH (S := fun V' => StB V' V.heap.size r s ∧ V'.cell? ⟨W1.heap.size, 0, none⟩ = some (.int .i64 3) ∧ V'.cell? ⟨W1.heap.size, 1, none⟩ = some (.int .i64 x.l.1) ∧ V'.cell? ⟨W1.heap.size, 2, none⟩ = some (.int .i64 x.l.2) ∧ V'.cell? ⟨W1.heap.size, 3, none⟩ = some (.int .i64 x.r.1) ∧ V'.cell? ⟨W1.heap.size, 4, none⟩ = some (.int .i64 x.r.2)) (by kernel_rfl) (HSF.out _ hbz) (fun hHeld => ?_)
  refine takesH [0, 1, 2, 3, 4, 6, 7, 8] (by kernel_rfl) (fun _ _ d _ _ h => by cases d <;> exact h) (by kernel_rfl) (by kernel_rfl) (by assumption) ?_
  repeat (first
    | (refine TakeSeq.cons (v := ?_) rfl (by rfl) ?_ ?_
       rotate_left
       · ((intro w hSw; unfold StB at hSw; go_simp) <;> (try with_reducible rfl))
       (try go_simp))
    | (refine TakeSeq.skip rfl (by rfl) ?_; (try go_simp)))
  refine TakeSeq.nil ?_
  refine callH 5 (by kernel_rfl) (by kernel_rfl) rfl (by rfl) ?_
  intro K hK
  go_simp
  go_at_call 45
  with_reducible refine (HVL.out _ hbz).mono ?_
  rintro e4 w4 ⟨rfl, hbn⟩
  have hbz := hbz.trans (hbn.mono hbz.size)
  clear hbn
  refine hK.out _ _ (HSF.out _ hbz) (fun hHeld => ?_)
  clear hK K
  (try go_simp)
  refine callH 9 (by kernel_rfl) (by kernel_rfl) rfl (by rfl) ?_
  intro K hK
  go_simp
  go_at_call 45
  with_reducible refine (HVR.out _ hbz).mono ?_
  rintro e5 w5 ⟨rfl, hbn⟩
  have hbz := hbz.trans (hbn.mono hbz.size)
  clear hbn
  refine hK.out _ _ (HSF.out _ hbz) (fun hHeld => ?_)
  clear hK K
  (try go_simp)
  refine callH 10 (by kernel_rfl) (by kernel_rfl) rfl (by rfl) ?_
  intro K hK
  go_simp
  go_at_call 44
  with_reducible refine (rcmp_any _ _ _ _).mono ?_
  rintro e6 w6 ⟨rfl, rfl⟩
  refine hK.out _ _ (HSF.out _ hbz) (fun hHeld => ?_)
  clear hK K
  (try go_simp)
  refine takesH [11] (by kernel_rfl) (fun _ _ d _ _ h => by cases d <;> exact h) (by kernel_rfl) (by kernel_rfl) (by assumption) ?_
  repeat (first
    | (refine TakeSeq.cons (v := ?_) rfl (by rfl) ?_ ?_
       rotate_left
       · ((intro w hSw; unfold StB at hSw; go_simp) <;> (try with_reducible rfl))
       (try go_simp))
    | (refine TakeSeq.skip rfl (by rfl) ?_; (try go_simp)))
  refine TakeSeq.nil ?_
  refine doneH (by kernel_rfl) ?_
  go_wp2
  go_ret
  exact ⟨ret_bool (HR.out.symm.trans HEV.out).symm, HB.out.trans ((HB3.out.trans (hbz.mono HB3.out.size)).mono HB.out.size)⟩

set_option maxRecDepth 100000 in
set_option maxHeartbeats 2000000 in
theorem at_4 {l : List Ins} {r : Stm} {s : Sta} {y : It} {hy : arN y.op = 0} {a : Nat} {x : Ins} (hx : l[a]? = some x) (htl : thereV s x.l = true) (htr : thereV s x.r = true) (hop : x.op = 4) : AtK l r s (Fm.leaf y hy) a a := by
  have HEV : Hid (evF s l (Fm.leaf y hy) a = cmpB 4 (valV s x.l) (valV s x.r)) := by
    unfold Hid
    rw [evF, insAt_of hx]
    unfold atomI
    rw [hop, if_neg (by omega), if_neg (by omega), if_pos (by omega), htl, htr, Bool.and_true, if_pos rfl]
  intro V lv sv hS hL hI
  have hmx := hL.max
  have hel := (List.getElem?_eq_some_iff.1 hx).1
  obtain ⟨W1, h1, HB, HS, HF⟩ := boxS hS
  obtain ⟨b, off, c, hv, hbl, a0, a1, a2, a3, a4, a5, a6⟩ := insRow (hL.below instE_keep HB.out) hx
  have HL := Lib.hid (hL.below instE_keep HB.out)
  have HI := Lib.hid (hI.keep HB.out)
  subst hv
  rw [hop] at a0
  obtain ⟨W2, h2, hb2, x2⟩ := box1 W1 #[.int .i64 4, .int .i64 x.l.1, .int .i64 x.l.2, .int .i64 x.r.1, .int .i64 x.r.2, .int .i64 x.n, .int .i64 x.user] 37
  have hb23 := hb2
  have HX := Lib.hid (And.intro x2 x2)
  have HK := Lib.hid (kids_0 (ItIn.keep HI.out hb2) (itI_at hx) (by show arN x.op = 0; rw [hop]; rfl))
  have HB3 := Lib.hid hb23
  have hez : ((a : Int) : Int) < (l.length : Int) := by omega
  have he0 : (0 : Int) ≤ (a : Int) := by omega
  obtain ⟨R, hR⟩ : ∃ R, evF s l (Fm.leaf y hy) a = R := ⟨_, rfl⟩
  have HR := Lib.hid hR
  rw [hR]
  have hF := HF.out _ hb23
  unfold StB at hF
  unfold stC at h1
  unfold stC
  obtain ⟨d0, d1, d2, d3, d4⟩ := hF
  clear hS hL hI hb2 x2 hb23 hR hx hel hop 
  go_enter Tryz.func30, Tryz.ntmps30
  go_wp2_with fail
  refine HK.out.mono ?_
  rintro e3 w3 ⟨rfl, hw⟩
  rw [hw]
  clear hw w3
  have g0 := HX.out.1.cell (i := 0) rfl
  have g1 := HX.out.1.cell (i := 1) rfl
  have g2 := HX.out.1.cell (i := 2) rfl
  have g3 := HX.out.1.cell (i := 3) rfl
  have g4 := HX.out.1.cell (i := 4) rfl
  have g5 := HX.out.1.cell (i := 5) rfl
  have g6 := HX.out.1.cell (i := 6) rfl
  have HSF : Hid (∀ V', Below W2.heap.size W2 V' → StB V' V.heap.size r s ∧ V'.cell? ⟨W1.heap.size, 0, none⟩ = some (.int .i64 4) ∧ V'.cell? ⟨W1.heap.size, 1, none⟩ = some (.int .i64 x.l.1) ∧ V'.cell? ⟨W1.heap.size, 2, none⟩ = some (.int .i64 x.l.2) ∧ V'.cell? ⟨W1.heap.size, 3, none⟩ = some (.int .i64 x.r.1) ∧ V'.cell? ⟨W1.heap.size, 4, none⟩ = some (.int .i64 x.r.2)) := fun V' hV => ⟨HF.out V' (HB3.out.trans (hV.mono HB3.out.size)), (HX.out.1.keep hV).cell rfl, (HX.out.1.keep hV).cell rfl, (HX.out.1.keep hV).cell rfl, (HX.out.1.keep hV).cell rfl, (HX.out.1.keep hV).cell rfl⟩
  have HSS : Hid (∀ V', Below W2.heap.size W2 V' → StQ V' r s) := fun V' hV => HS.out.below (HB3.out.trans (hV.mono HB3.out.size))
  have HVL : Hid (∀ V', Below W2.heap.size W2 V' → Calls Tryz.prog 45 #[.agg #[.slice r.a0 s.vals.length r.k0, .int .i64 s.opn, .int .i64 s.dne, .slice r.a3 s.did.length r.k3, .slice r.a4 s.cnt.length r.k4], .agg #[.int .i64 x.l.1, .int .i64 x.l.2]] V' (Ret V' (.int .i64 (valV s x.l)))) := fun V' hV => rvalQ (HSS.out V' hV) x.l htl
  have HVR : Hid (∀ V', Below W2.heap.size W2 V' → Calls Tryz.prog 45 #[.agg #[.slice r.a0 s.vals.length r.k0, .int .i64 s.opn, .int .i64 s.dne, .slice r.a3 s.did.length r.k3, .slice r.a4 s.cnt.length r.k4], .agg #[.int .i64 x.r.1, .int .i64 x.r.2]] V' (Ret V' (.int .i64 (valV s x.r)))) := fun V' hV => rvalQ (HSS.out V' hV) x.r htr
  clear htl htr
  go_upto_region 24 with fail
  clear d0 d1 d2 d3 d4 g0 g1 g2 g3 g4 g5 g6
  have hbz : Below W2.heap.size W2 W2.drew := (Below.refl _ _).drew
  refine startH (S := fun V' => StB V' V.heap.size r s ∧ V'.cell? ⟨W1.heap.size, 0, none⟩ = some (.int .i64 4) ∧ V'.cell? ⟨W1.heap.size, 1, none⟩ = some (.int .i64 x.l.1) ∧ V'.cell? ⟨W1.heap.size, 2, none⟩ = some (.int .i64 x.l.2) ∧ V'.cell? ⟨W1.heap.size, 3, none⟩ = some (.int .i64 x.r.1) ∧ V'.cell? ⟨W1.heap.size, 4, none⟩ = some (.int .i64 x.r.2)) (by kernel_rfl) (HSF.out _ hbz) (fun hHeld => ?_)
  refine takesH [0, 1, 2, 3, 4, 6, 7, 8] (by kernel_rfl) (fun _ _ d _ _ h => by cases d <;> exact h) (by kernel_rfl) (by kernel_rfl) (by assumption) ?_
  repeat (first
    | (refine TakeSeq.cons (v := ?_) rfl (by rfl) ?_ ?_
       rotate_left
       · ((intro w hSw; unfold StB at hSw; go_simp) <;> (try with_reducible rfl))
       (try go_simp))
    | (refine TakeSeq.skip rfl (by rfl) ?_; (try go_simp)))
  refine TakeSeq.nil ?_
  refine callH 5 (by kernel_rfl) (by kernel_rfl) rfl (by rfl) ?_
  intro K hK
  go_simp
  go_at_call 45
  with_reducible refine (HVL.out _ hbz).mono ?_
  rintro e4 w4 ⟨rfl, hbn⟩
  have hbz := hbz.trans (hbn.mono hbz.size)
  clear hbn
  refine hK.out _ _ (HSF.out _ hbz) (fun hHeld => ?_)
  clear hK K
  (try go_simp)
  refine callH 9 (by kernel_rfl) (by kernel_rfl) rfl (by rfl) ?_
  intro K hK
  go_simp
  go_at_call 45
  with_reducible refine (HVR.out _ hbz).mono ?_
  rintro e5 w5 ⟨rfl, hbn⟩
  have hbz := hbz.trans (hbn.mono hbz.size)
  clear hbn
  refine hK.out _ _ (HSF.out _ hbz) (fun hHeld => ?_)
  clear hK K
  (try go_simp)
  refine callH 10 (by kernel_rfl) (by kernel_rfl) rfl (by rfl) ?_
  intro K hK
  go_simp
  go_at_call 44
  with_reducible refine (rcmp_any _ _ _ _).mono ?_
  rintro e6 w6 ⟨rfl, rfl⟩
  refine hK.out _ _ (HSF.out _ hbz) (fun hHeld => ?_)
  clear hK K
  (try go_simp)
  refine takesH [11] (by kernel_rfl) (fun _ _ d _ _ h => by cases d <;> exact h) (by kernel_rfl) (by kernel_rfl) (by assumption) ?_
  repeat (first
    | (refine TakeSeq.cons (v := ?_) rfl (by rfl) ?_ ?_
       rotate_left
       · ((intro w hSw; unfold StB at hSw; go_simp) <;> (try with_reducible rfl))
       (try go_simp))
    | (refine TakeSeq.skip rfl (by rfl) ?_; (try go_simp)))
  refine TakeSeq.nil ?_
  refine doneH (by kernel_rfl) ?_
  go_wp2
  go_ret
  exact ⟨ret_bool (HR.out.symm.trans HEV.out).symm, HB.out.trans ((HB3.out.trans (hbz.mono HB3.out.size)).mono HB.out.size)⟩

set_option maxRecDepth 100000 in
set_option maxHeartbeats 2000000 in
theorem at_5 {l : List Ins} {r : Stm} {s : Sta} {y : It} {hy : arN y.op = 0} {a : Nat} {x : Ins} (hx : l[a]? = some x) (htl : thereV s x.l = true) (htr : thereV s x.r = true) (hop : x.op = 5) : AtK l r s (Fm.leaf y hy) a a := by
  have HEV : Hid (evF s l (Fm.leaf y hy) a = cmpB 5 (valV s x.l) (valV s x.r)) := by
    unfold Hid
    rw [evF, insAt_of hx]
    unfold atomI
    rw [hop, if_neg (by omega), if_neg (by omega), if_pos (by omega), htl, htr, Bool.and_true, if_pos rfl]
  intro V lv sv hS hL hI
  have hmx := hL.max
  have hel := (List.getElem?_eq_some_iff.1 hx).1
  obtain ⟨W1, h1, HB, HS, HF⟩ := boxS hS
  obtain ⟨b, off, c, hv, hbl, a0, a1, a2, a3, a4, a5, a6⟩ := insRow (hL.below instE_keep HB.out) hx
  have HL := Lib.hid (hL.below instE_keep HB.out)
  have HI := Lib.hid (hI.keep HB.out)
  subst hv
  rw [hop] at a0
  obtain ⟨W2, h2, hb2, x2⟩ := box1 W1 #[.int .i64 5, .int .i64 x.l.1, .int .i64 x.l.2, .int .i64 x.r.1, .int .i64 x.r.2, .int .i64 x.n, .int .i64 x.user] 37
  have hb23 := hb2
  have HX := Lib.hid (And.intro x2 x2)
  have HK := Lib.hid (kids_0 (ItIn.keep HI.out hb2) (itI_at hx) (by show arN x.op = 0; rw [hop]; rfl))
  have HB3 := Lib.hid hb23
  have hez : ((a : Int) : Int) < (l.length : Int) := by omega
  have he0 : (0 : Int) ≤ (a : Int) := by omega
  obtain ⟨R, hR⟩ : ∃ R, evF s l (Fm.leaf y hy) a = R := ⟨_, rfl⟩
  have HR := Lib.hid hR
  rw [hR]
  have hF := HF.out _ hb23
  unfold StB at hF
  unfold stC at h1
  unfold stC
  obtain ⟨d0, d1, d2, d3, d4⟩ := hF
  clear hS hL hI hb2 x2 hb23 hR hx hel hop 
  go_enter Tryz.func30, Tryz.ntmps30
  go_wp2_with fail
  refine HK.out.mono ?_
  rintro e3 w3 ⟨rfl, hw⟩
  rw [hw]
  clear hw w3
  have g0 := HX.out.1.cell (i := 0) rfl
  have g1 := HX.out.1.cell (i := 1) rfl
  have g2 := HX.out.1.cell (i := 2) rfl
  have g3 := HX.out.1.cell (i := 3) rfl
  have g4 := HX.out.1.cell (i := 4) rfl
  have g5 := HX.out.1.cell (i := 5) rfl
  have g6 := HX.out.1.cell (i := 6) rfl
  have HSF : Hid (∀ V', Below W2.heap.size W2 V' → StB V' V.heap.size r s ∧ V'.cell? ⟨W1.heap.size, 0, none⟩ = some (.int .i64 5) ∧ V'.cell? ⟨W1.heap.size, 1, none⟩ = some (.int .i64 x.l.1) ∧ V'.cell? ⟨W1.heap.size, 2, none⟩ = some (.int .i64 x.l.2) ∧ V'.cell? ⟨W1.heap.size, 3, none⟩ = some (.int .i64 x.r.1) ∧ V'.cell? ⟨W1.heap.size, 4, none⟩ = some (.int .i64 x.r.2)) := fun V' hV => ⟨HF.out V' (HB3.out.trans (hV.mono HB3.out.size)), (HX.out.1.keep hV).cell rfl, (HX.out.1.keep hV).cell rfl, (HX.out.1.keep hV).cell rfl, (HX.out.1.keep hV).cell rfl, (HX.out.1.keep hV).cell rfl⟩
  have HSS : Hid (∀ V', Below W2.heap.size W2 V' → StQ V' r s) := fun V' hV => HS.out.below (HB3.out.trans (hV.mono HB3.out.size))
  have HVL : Hid (∀ V', Below W2.heap.size W2 V' → Calls Tryz.prog 45 #[.agg #[.slice r.a0 s.vals.length r.k0, .int .i64 s.opn, .int .i64 s.dne, .slice r.a3 s.did.length r.k3, .slice r.a4 s.cnt.length r.k4], .agg #[.int .i64 x.l.1, .int .i64 x.l.2]] V' (Ret V' (.int .i64 (valV s x.l)))) := fun V' hV => rvalQ (HSS.out V' hV) x.l htl
  have HVR : Hid (∀ V', Below W2.heap.size W2 V' → Calls Tryz.prog 45 #[.agg #[.slice r.a0 s.vals.length r.k0, .int .i64 s.opn, .int .i64 s.dne, .slice r.a3 s.did.length r.k3, .slice r.a4 s.cnt.length r.k4], .agg #[.int .i64 x.r.1, .int .i64 x.r.2]] V' (Ret V' (.int .i64 (valV s x.r)))) := fun V' hV => rvalQ (HSS.out V' hV) x.r htr
  clear htl htr
  go_upto_region 24 with fail
  clear d0 d1 d2 d3 d4 g0 g1 g2 g3 g4 g5 g6
  have hbz : Below W2.heap.size W2 W2.drew := (Below.refl _ _).drew
  refine startH (S := fun V' => StB V' V.heap.size r s ∧ V'.cell? ⟨W1.heap.size, 0, none⟩ = some (.int .i64 5) ∧ V'.cell? ⟨W1.heap.size, 1, none⟩ = some (.int .i64 x.l.1) ∧ V'.cell? ⟨W1.heap.size, 2, none⟩ = some (.int .i64 x.l.2) ∧ V'.cell? ⟨W1.heap.size, 3, none⟩ = some (.int .i64 x.r.1) ∧ V'.cell? ⟨W1.heap.size, 4, none⟩ = some (.int .i64 x.r.2)) (by kernel_rfl) (HSF.out _ hbz) (fun hHeld => ?_)
  refine takesH [0, 1, 2, 3, 4, 6, 7, 8] (by kernel_rfl) (fun _ _ d _ _ h => by cases d <;> exact h) (by kernel_rfl) (by kernel_rfl) (by assumption) ?_
  repeat (first
    | (refine TakeSeq.cons (v := ?_) rfl (by rfl) ?_ ?_
       rotate_left
       · ((intro w hSw; unfold StB at hSw; go_simp) <;> (try with_reducible rfl))
       (try go_simp))
    | (refine TakeSeq.skip rfl (by rfl) ?_; (try go_simp)))
  refine TakeSeq.nil ?_
  refine callH 5 (by kernel_rfl) (by kernel_rfl) rfl (by rfl) ?_
  intro K hK
  go_simp
  go_at_call 45
  with_reducible refine (HVL.out _ hbz).mono ?_
  rintro e4 w4 ⟨rfl, hbn⟩
  have hbz := hbz.trans (hbn.mono hbz.size)
  clear hbn
  refine hK.out _ _ (HSF.out _ hbz) (fun hHeld => ?_)
  clear hK K
  (try go_simp)
  refine callH 9 (by kernel_rfl) (by kernel_rfl) rfl (by rfl) ?_
  intro K hK
  go_simp
  go_at_call 45
  with_reducible refine (HVR.out _ hbz).mono ?_
  rintro e5 w5 ⟨rfl, hbn⟩
  have hbz := hbz.trans (hbn.mono hbz.size)
  clear hbn
  refine hK.out _ _ (HSF.out _ hbz) (fun hHeld => ?_)
  clear hK K
  (try go_simp)
  refine callH 10 (by kernel_rfl) (by kernel_rfl) rfl (by rfl) ?_
  intro K hK
  go_simp
  go_at_call 44
  with_reducible refine (rcmp_any _ _ _ _).mono ?_
  rintro e6 w6 ⟨rfl, rfl⟩
  refine hK.out _ _ (HSF.out _ hbz) (fun hHeld => ?_)
  clear hK K
  (try go_simp)
  refine takesH [11] (by kernel_rfl) (fun _ _ d _ _ h => by cases d <;> exact h) (by kernel_rfl) (by kernel_rfl) (by assumption) ?_
  repeat (first
    | (refine TakeSeq.cons (v := ?_) rfl (by rfl) ?_ ?_
       rotate_left
       · ((intro w hSw; unfold StB at hSw; go_simp) <;> (try with_reducible rfl))
       (try go_simp))
    | (refine TakeSeq.skip rfl (by rfl) ?_; (try go_simp)))
  refine TakeSeq.nil ?_
  refine doneH (by kernel_rfl) ?_
  go_wp2
  go_ret
  exact ⟨ret_bool (HR.out.symm.trans HEV.out).symm, HB.out.trans ((HB3.out.trans (hbz.mono HB3.out.size)).mono HB.out.size)⟩

set_option maxRecDepth 100000 in
set_option maxHeartbeats 2000000 in
theorem at_6 {l : List Ins} {r : Stm} {s : Sta} {y : It} {hy : arN y.op = 0} {a : Nat} {x : Ins} (hx : l[a]? = some x) (htl : thereV s x.l = true) (htr : thereV s x.r = true) (hop : x.op = 6) : AtK l r s (Fm.leaf y hy) a a := by
  have HEV : Hid (evF s l (Fm.leaf y hy) a = cmpB 6 (valV s x.l) (valV s x.r)) := by
    unfold Hid
    rw [evF, insAt_of hx]
    unfold atomI
    rw [hop, if_neg (by omega), if_neg (by omega), if_pos (by omega), htl, htr, Bool.and_true, if_pos rfl]
  intro V lv sv hS hL hI
  have hmx := hL.max
  have hel := (List.getElem?_eq_some_iff.1 hx).1
  obtain ⟨W1, h1, HB, HS, HF⟩ := boxS hS
  obtain ⟨b, off, c, hv, hbl, a0, a1, a2, a3, a4, a5, a6⟩ := insRow (hL.below instE_keep HB.out) hx
  have HL := Lib.hid (hL.below instE_keep HB.out)
  have HI := Lib.hid (hI.keep HB.out)
  subst hv
  rw [hop] at a0
  obtain ⟨W2, h2, hb2, x2⟩ := box1 W1 #[.int .i64 6, .int .i64 x.l.1, .int .i64 x.l.2, .int .i64 x.r.1, .int .i64 x.r.2, .int .i64 x.n, .int .i64 x.user] 37
  have hb23 := hb2
  have HX := Lib.hid (And.intro x2 x2)
  have HK := Lib.hid (kids_0 (ItIn.keep HI.out hb2) (itI_at hx) (by show arN x.op = 0; rw [hop]; rfl))
  have HB3 := Lib.hid hb23
  have hez : ((a : Int) : Int) < (l.length : Int) := by omega
  have he0 : (0 : Int) ≤ (a : Int) := by omega
  obtain ⟨R, hR⟩ : ∃ R, evF s l (Fm.leaf y hy) a = R := ⟨_, rfl⟩
  have HR := Lib.hid hR
  rw [hR]
  have hF := HF.out _ hb23
  unfold StB at hF
  unfold stC at h1
  unfold stC
  obtain ⟨d0, d1, d2, d3, d4⟩ := hF
  clear hS hL hI hb2 x2 hb23 hR hx hel hop 
  go_enter Tryz.func30, Tryz.ntmps30
  go_wp2_with fail
  refine HK.out.mono ?_
  rintro e3 w3 ⟨rfl, hw⟩
  rw [hw]
  clear hw w3
  have g0 := HX.out.1.cell (i := 0) rfl
  have g1 := HX.out.1.cell (i := 1) rfl
  have g2 := HX.out.1.cell (i := 2) rfl
  have g3 := HX.out.1.cell (i := 3) rfl
  have g4 := HX.out.1.cell (i := 4) rfl
  have g5 := HX.out.1.cell (i := 5) rfl
  have g6 := HX.out.1.cell (i := 6) rfl
  have HSF : Hid (∀ V', Below W2.heap.size W2 V' → StB V' V.heap.size r s ∧ V'.cell? ⟨W1.heap.size, 0, none⟩ = some (.int .i64 6) ∧ V'.cell? ⟨W1.heap.size, 1, none⟩ = some (.int .i64 x.l.1) ∧ V'.cell? ⟨W1.heap.size, 2, none⟩ = some (.int .i64 x.l.2) ∧ V'.cell? ⟨W1.heap.size, 3, none⟩ = some (.int .i64 x.r.1) ∧ V'.cell? ⟨W1.heap.size, 4, none⟩ = some (.int .i64 x.r.2)) := fun V' hV => ⟨HF.out V' (HB3.out.trans (hV.mono HB3.out.size)), (HX.out.1.keep hV).cell rfl, (HX.out.1.keep hV).cell rfl, (HX.out.1.keep hV).cell rfl, (HX.out.1.keep hV).cell rfl, (HX.out.1.keep hV).cell rfl⟩
  have HSS : Hid (∀ V', Below W2.heap.size W2 V' → StQ V' r s) := fun V' hV => HS.out.below (HB3.out.trans (hV.mono HB3.out.size))
  have HVL : Hid (∀ V', Below W2.heap.size W2 V' → Calls Tryz.prog 45 #[.agg #[.slice r.a0 s.vals.length r.k0, .int .i64 s.opn, .int .i64 s.dne, .slice r.a3 s.did.length r.k3, .slice r.a4 s.cnt.length r.k4], .agg #[.int .i64 x.l.1, .int .i64 x.l.2]] V' (Ret V' (.int .i64 (valV s x.l)))) := fun V' hV => rvalQ (HSS.out V' hV) x.l htl
  have HVR : Hid (∀ V', Below W2.heap.size W2 V' → Calls Tryz.prog 45 #[.agg #[.slice r.a0 s.vals.length r.k0, .int .i64 s.opn, .int .i64 s.dne, .slice r.a3 s.did.length r.k3, .slice r.a4 s.cnt.length r.k4], .agg #[.int .i64 x.r.1, .int .i64 x.r.2]] V' (Ret V' (.int .i64 (valV s x.r)))) := fun V' hV => rvalQ (HSS.out V' hV) x.r htr
  clear htl htr
  go_upto_region 24 with fail
  clear d0 d1 d2 d3 d4 g0 g1 g2 g3 g4 g5 g6
  have hbz : Below W2.heap.size W2 W2.drew := (Below.refl _ _).drew
  refine startH (S := fun V' => StB V' V.heap.size r s ∧ V'.cell? ⟨W1.heap.size, 0, none⟩ = some (.int .i64 6) ∧ V'.cell? ⟨W1.heap.size, 1, none⟩ = some (.int .i64 x.l.1) ∧ V'.cell? ⟨W1.heap.size, 2, none⟩ = some (.int .i64 x.l.2) ∧ V'.cell? ⟨W1.heap.size, 3, none⟩ = some (.int .i64 x.r.1) ∧ V'.cell? ⟨W1.heap.size, 4, none⟩ = some (.int .i64 x.r.2)) (by kernel_rfl) (HSF.out _ hbz) (fun hHeld => ?_)
  refine takesH [0, 1, 2, 3, 4, 6, 7, 8] (by kernel_rfl) (fun _ _ d _ _ h => by cases d <;> exact h) (by kernel_rfl) (by kernel_rfl) (by assumption) ?_
  repeat (first
    | (refine TakeSeq.cons (v := ?_) rfl (by rfl) ?_ ?_
       rotate_left
       · ((intro w hSw; unfold StB at hSw; go_simp) <;> (try with_reducible rfl))
       (try go_simp))
    | (refine TakeSeq.skip rfl (by rfl) ?_; (try go_simp)))
  refine TakeSeq.nil ?_
  refine callH 5 (by kernel_rfl) (by kernel_rfl) rfl (by rfl) ?_
  intro K hK
  go_simp
  go_at_call 45
  with_reducible refine (HVL.out _ hbz).mono ?_
  rintro e4 w4 ⟨rfl, hbn⟩
  have hbz := hbz.trans (hbn.mono hbz.size)
  clear hbn
  refine hK.out _ _ (HSF.out _ hbz) (fun hHeld => ?_)
  clear hK K
  (try go_simp)
  refine callH 9 (by kernel_rfl) (by kernel_rfl) rfl (by rfl) ?_
  intro K hK
  go_simp
  go_at_call 45
  with_reducible refine (HVR.out _ hbz).mono ?_
  rintro e5 w5 ⟨rfl, hbn⟩
  have hbz := hbz.trans (hbn.mono hbz.size)
  clear hbn
  refine hK.out _ _ (HSF.out _ hbz) (fun hHeld => ?_)
  clear hK K
  (try go_simp)
  refine callH 10 (by kernel_rfl) (by kernel_rfl) rfl (by rfl) ?_
  intro K hK
  go_simp
  go_at_call 44
  with_reducible refine (rcmp_any _ _ _ _).mono ?_
  rintro e6 w6 ⟨rfl, rfl⟩
  refine hK.out _ _ (HSF.out _ hbz) (fun hHeld => ?_)
  clear hK K
  (try go_simp)
  refine takesH [11] (by kernel_rfl) (fun _ _ d _ _ h => by cases d <;> exact h) (by kernel_rfl) (by kernel_rfl) (by assumption) ?_
  repeat (first
    | (refine TakeSeq.cons (v := ?_) rfl (by rfl) ?_ ?_
       rotate_left
       · ((intro w hSw; unfold StB at hSw; go_simp) <;> (try with_reducible rfl))
       (try go_simp))
    | (refine TakeSeq.skip rfl (by rfl) ?_; (try go_simp)))
  refine TakeSeq.nil ?_
  refine doneH (by kernel_rfl) ?_
  go_wp2
  go_ret
  exact ⟨ret_bool (HR.out.symm.trans HEV.out).symm, HB.out.trans ((HB3.out.trans (hbz.mono HB3.out.size)).mono HB.out.size)⟩

set_option maxRecDepth 100000 in
set_option maxHeartbeats 2000000 in
theorem at_7 {l : List Ins} {r : Stm} {s : Sta} {y : It} {hy : arN y.op = 0} {a : Nat} {x : Ins} (hx : l[a]? = some x) (htl : thereV s x.l = true) (htr : thereV s x.r = true) (hop : x.op = 7) : AtK l r s (Fm.leaf y hy) a a := by
  have HEV : Hid (evF s l (Fm.leaf y hy) a = cmpB 7 (valV s x.l) (valV s x.r)) := by
    unfold Hid
    rw [evF, insAt_of hx]
    unfold atomI
    rw [hop, if_neg (by omega), if_neg (by omega), if_pos (by omega), htl, htr, Bool.and_true, if_pos rfl]
  intro V lv sv hS hL hI
  have hmx := hL.max
  have hel := (List.getElem?_eq_some_iff.1 hx).1
  obtain ⟨W1, h1, HB, HS, HF⟩ := boxS hS
  obtain ⟨b, off, c, hv, hbl, a0, a1, a2, a3, a4, a5, a6⟩ := insRow (hL.below instE_keep HB.out) hx
  have HL := Lib.hid (hL.below instE_keep HB.out)
  have HI := Lib.hid (hI.keep HB.out)
  subst hv
  rw [hop] at a0
  obtain ⟨W2, h2, hb2, x2⟩ := box1 W1 #[.int .i64 7, .int .i64 x.l.1, .int .i64 x.l.2, .int .i64 x.r.1, .int .i64 x.r.2, .int .i64 x.n, .int .i64 x.user] 37
  have hb23 := hb2
  have HX := Lib.hid (And.intro x2 x2)
  have HK := Lib.hid (kids_0 (ItIn.keep HI.out hb2) (itI_at hx) (by show arN x.op = 0; rw [hop]; rfl))
  have HB3 := Lib.hid hb23
  have hez : ((a : Int) : Int) < (l.length : Int) := by omega
  have he0 : (0 : Int) ≤ (a : Int) := by omega
  obtain ⟨R, hR⟩ : ∃ R, evF s l (Fm.leaf y hy) a = R := ⟨_, rfl⟩
  have HR := Lib.hid hR
  rw [hR]
  have hF := HF.out _ hb23
  unfold StB at hF
  unfold stC at h1
  unfold stC
  obtain ⟨d0, d1, d2, d3, d4⟩ := hF
  clear hS hL hI hb2 x2 hb23 hR hx hel hop 
  go_enter Tryz.func30, Tryz.ntmps30
  go_wp2_with fail
  refine HK.out.mono ?_
  rintro e3 w3 ⟨rfl, hw⟩
  rw [hw]
  clear hw w3
  have g0 := HX.out.1.cell (i := 0) rfl
  have g1 := HX.out.1.cell (i := 1) rfl
  have g2 := HX.out.1.cell (i := 2) rfl
  have g3 := HX.out.1.cell (i := 3) rfl
  have g4 := HX.out.1.cell (i := 4) rfl
  have g5 := HX.out.1.cell (i := 5) rfl
  have g6 := HX.out.1.cell (i := 6) rfl
  have HSF : Hid (∀ V', Below W2.heap.size W2 V' → StB V' V.heap.size r s ∧ V'.cell? ⟨W1.heap.size, 0, none⟩ = some (.int .i64 7) ∧ V'.cell? ⟨W1.heap.size, 1, none⟩ = some (.int .i64 x.l.1) ∧ V'.cell? ⟨W1.heap.size, 2, none⟩ = some (.int .i64 x.l.2) ∧ V'.cell? ⟨W1.heap.size, 3, none⟩ = some (.int .i64 x.r.1) ∧ V'.cell? ⟨W1.heap.size, 4, none⟩ = some (.int .i64 x.r.2)) := fun V' hV => ⟨HF.out V' (HB3.out.trans (hV.mono HB3.out.size)), (HX.out.1.keep hV).cell rfl, (HX.out.1.keep hV).cell rfl, (HX.out.1.keep hV).cell rfl, (HX.out.1.keep hV).cell rfl, (HX.out.1.keep hV).cell rfl⟩
  have HSS : Hid (∀ V', Below W2.heap.size W2 V' → StQ V' r s) := fun V' hV => HS.out.below (HB3.out.trans (hV.mono HB3.out.size))
  have HVL : Hid (∀ V', Below W2.heap.size W2 V' → Calls Tryz.prog 45 #[.agg #[.slice r.a0 s.vals.length r.k0, .int .i64 s.opn, .int .i64 s.dne, .slice r.a3 s.did.length r.k3, .slice r.a4 s.cnt.length r.k4], .agg #[.int .i64 x.l.1, .int .i64 x.l.2]] V' (Ret V' (.int .i64 (valV s x.l)))) := fun V' hV => rvalQ (HSS.out V' hV) x.l htl
  have HVR : Hid (∀ V', Below W2.heap.size W2 V' → Calls Tryz.prog 45 #[.agg #[.slice r.a0 s.vals.length r.k0, .int .i64 s.opn, .int .i64 s.dne, .slice r.a3 s.did.length r.k3, .slice r.a4 s.cnt.length r.k4], .agg #[.int .i64 x.r.1, .int .i64 x.r.2]] V' (Ret V' (.int .i64 (valV s x.r)))) := fun V' hV => rvalQ (HSS.out V' hV) x.r htr
  clear htl htr
  go_upto_region 24 with fail
  clear d0 d1 d2 d3 d4 g0 g1 g2 g3 g4 g5 g6
  have hbz : Below W2.heap.size W2 W2.drew := (Below.refl _ _).drew
  refine startH (S := fun V' => StB V' V.heap.size r s ∧ V'.cell? ⟨W1.heap.size, 0, none⟩ = some (.int .i64 7) ∧ V'.cell? ⟨W1.heap.size, 1, none⟩ = some (.int .i64 x.l.1) ∧ V'.cell? ⟨W1.heap.size, 2, none⟩ = some (.int .i64 x.l.2) ∧ V'.cell? ⟨W1.heap.size, 3, none⟩ = some (.int .i64 x.r.1) ∧ V'.cell? ⟨W1.heap.size, 4, none⟩ = some (.int .i64 x.r.2)) (by kernel_rfl) (HSF.out _ hbz) (fun hHeld => ?_)
  refine takesH [0, 1, 2, 3, 4, 6, 7, 8] (by kernel_rfl) (fun _ _ d _ _ h => by cases d <;> exact h) (by kernel_rfl) (by kernel_rfl) (by assumption) ?_
  repeat (first
    | (refine TakeSeq.cons (v := ?_) rfl (by rfl) ?_ ?_
       rotate_left
       · ((intro w hSw; unfold StB at hSw; go_simp) <;> (try with_reducible rfl))
       (try go_simp))
    | (refine TakeSeq.skip rfl (by rfl) ?_; (try go_simp)))
  refine TakeSeq.nil ?_
  refine callH 5 (by kernel_rfl) (by kernel_rfl) rfl (by rfl) ?_
  intro K hK
  go_simp
  go_at_call 45
  with_reducible refine (HVL.out _ hbz).mono ?_
  rintro e4 w4 ⟨rfl, hbn⟩
  have hbz := hbz.trans (hbn.mono hbz.size)
  clear hbn
  refine hK.out _ _ (HSF.out _ hbz) (fun hHeld => ?_)
  clear hK K
  (try go_simp)
  refine callH 9 (by kernel_rfl) (by kernel_rfl) rfl (by rfl) ?_
  intro K hK
  go_simp
  go_at_call 45
  with_reducible refine (HVR.out _ hbz).mono ?_
  rintro e5 w5 ⟨rfl, hbn⟩
  have hbz := hbz.trans (hbn.mono hbz.size)
  clear hbn
  refine hK.out _ _ (HSF.out _ hbz) (fun hHeld => ?_)
  clear hK K
  (try go_simp)
  refine callH 10 (by kernel_rfl) (by kernel_rfl) rfl (by rfl) ?_
  intro K hK
  go_simp
  go_at_call 44
  with_reducible refine (rcmp_any _ _ _ _).mono ?_
  rintro e6 w6 ⟨rfl, rfl⟩
  refine hK.out _ _ (HSF.out _ hbz) (fun hHeld => ?_)
  clear hK K
  (try go_simp)
  refine takesH [11] (by kernel_rfl) (fun _ _ d _ _ h => by cases d <;> exact h) (by kernel_rfl) (by kernel_rfl) (by assumption) ?_
  repeat (first
    | (refine TakeSeq.cons (v := ?_) rfl (by rfl) ?_ ?_
       rotate_left
       · ((intro w hSw; unfold StB at hSw; go_simp) <;> (try with_reducible rfl))
       (try go_simp))
    | (refine TakeSeq.skip rfl (by rfl) ?_; (try go_simp)))
  refine TakeSeq.nil ?_
  refine doneH (by kernel_rfl) ?_
  go_wp2
  go_ret
  exact ⟨ret_bool (HR.out.symm.trans HEV.out).symm, HB.out.trans ((HB3.out.trans (hbz.mono HB3.out.size)).mono HB.out.size)⟩

set_option maxRecDepth 100000 in
set_option maxHeartbeats 2000000 in
theorem at_8 {l : List Ins} {r : Stm} {s : Sta} {y : It} {hy : arN y.op = 0} {a : Nat} {x : Ins} (hx : l[a]? = some x) (htl : thereV s x.l = true) (htr : thereV s x.r = true) (hop : x.op = 8) : AtK l r s (Fm.leaf y hy) a a := by
  have HEV : Hid (evF s l (Fm.leaf y hy) a = cmpB 8 (valV s x.l) (valV s x.r)) := by
    unfold Hid
    rw [evF, insAt_of hx]
    unfold atomI
    rw [hop, if_neg (by omega), if_neg (by omega), if_pos (by omega), htl, htr, Bool.and_true, if_pos rfl]
  intro V lv sv hS hL hI
  have hmx := hL.max
  have hel := (List.getElem?_eq_some_iff.1 hx).1
  obtain ⟨W1, h1, HB, HS, HF⟩ := boxS hS
  obtain ⟨b, off, c, hv, hbl, a0, a1, a2, a3, a4, a5, a6⟩ := insRow (hL.below instE_keep HB.out) hx
  have HL := Lib.hid (hL.below instE_keep HB.out)
  have HI := Lib.hid (hI.keep HB.out)
  subst hv
  rw [hop] at a0
  obtain ⟨W2, h2, hb2, x2⟩ := box1 W1 #[.int .i64 8, .int .i64 x.l.1, .int .i64 x.l.2, .int .i64 x.r.1, .int .i64 x.r.2, .int .i64 x.n, .int .i64 x.user] 37
  have hb23 := hb2
  have HX := Lib.hid (And.intro x2 x2)
  have HK := Lib.hid (kids_0 (ItIn.keep HI.out hb2) (itI_at hx) (by show arN x.op = 0; rw [hop]; rfl))
  have HB3 := Lib.hid hb23
  have hez : ((a : Int) : Int) < (l.length : Int) := by omega
  have he0 : (0 : Int) ≤ (a : Int) := by omega
  obtain ⟨R, hR⟩ : ∃ R, evF s l (Fm.leaf y hy) a = R := ⟨_, rfl⟩
  have HR := Lib.hid hR
  rw [hR]
  have hF := HF.out _ hb23
  unfold StB at hF
  unfold stC at h1
  unfold stC
  obtain ⟨d0, d1, d2, d3, d4⟩ := hF
  clear hS hL hI hb2 x2 hb23 hR hx hel hop 
  go_enter Tryz.func30, Tryz.ntmps30
  go_wp2_with fail
  refine HK.out.mono ?_
  rintro e3 w3 ⟨rfl, hw⟩
  rw [hw]
  clear hw w3
  have g0 := HX.out.1.cell (i := 0) rfl
  have g1 := HX.out.1.cell (i := 1) rfl
  have g2 := HX.out.1.cell (i := 2) rfl
  have g3 := HX.out.1.cell (i := 3) rfl
  have g4 := HX.out.1.cell (i := 4) rfl
  have g5 := HX.out.1.cell (i := 5) rfl
  have g6 := HX.out.1.cell (i := 6) rfl
  have HSF : Hid (∀ V', Below W2.heap.size W2 V' → StB V' V.heap.size r s ∧ V'.cell? ⟨W1.heap.size, 0, none⟩ = some (.int .i64 8) ∧ V'.cell? ⟨W1.heap.size, 1, none⟩ = some (.int .i64 x.l.1) ∧ V'.cell? ⟨W1.heap.size, 2, none⟩ = some (.int .i64 x.l.2) ∧ V'.cell? ⟨W1.heap.size, 3, none⟩ = some (.int .i64 x.r.1) ∧ V'.cell? ⟨W1.heap.size, 4, none⟩ = some (.int .i64 x.r.2)) := fun V' hV => ⟨HF.out V' (HB3.out.trans (hV.mono HB3.out.size)), (HX.out.1.keep hV).cell rfl, (HX.out.1.keep hV).cell rfl, (HX.out.1.keep hV).cell rfl, (HX.out.1.keep hV).cell rfl, (HX.out.1.keep hV).cell rfl⟩
  have HSS : Hid (∀ V', Below W2.heap.size W2 V' → StQ V' r s) := fun V' hV => HS.out.below (HB3.out.trans (hV.mono HB3.out.size))
  have HVL : Hid (∀ V', Below W2.heap.size W2 V' → Calls Tryz.prog 45 #[.agg #[.slice r.a0 s.vals.length r.k0, .int .i64 s.opn, .int .i64 s.dne, .slice r.a3 s.did.length r.k3, .slice r.a4 s.cnt.length r.k4], .agg #[.int .i64 x.l.1, .int .i64 x.l.2]] V' (Ret V' (.int .i64 (valV s x.l)))) := fun V' hV => rvalQ (HSS.out V' hV) x.l htl
  have HVR : Hid (∀ V', Below W2.heap.size W2 V' → Calls Tryz.prog 45 #[.agg #[.slice r.a0 s.vals.length r.k0, .int .i64 s.opn, .int .i64 s.dne, .slice r.a3 s.did.length r.k3, .slice r.a4 s.cnt.length r.k4], .agg #[.int .i64 x.r.1, .int .i64 x.r.2]] V' (Ret V' (.int .i64 (valV s x.r)))) := fun V' hV => rvalQ (HSS.out V' hV) x.r htr
  clear htl htr
  go_upto_region 24 with fail
  clear d0 d1 d2 d3 d4 g0 g1 g2 g3 g4 g5 g6
  have hbz : Below W2.heap.size W2 W2.drew := (Below.refl _ _).drew
  refine startH (S := fun V' => StB V' V.heap.size r s ∧ V'.cell? ⟨W1.heap.size, 0, none⟩ = some (.int .i64 8) ∧ V'.cell? ⟨W1.heap.size, 1, none⟩ = some (.int .i64 x.l.1) ∧ V'.cell? ⟨W1.heap.size, 2, none⟩ = some (.int .i64 x.l.2) ∧ V'.cell? ⟨W1.heap.size, 3, none⟩ = some (.int .i64 x.r.1) ∧ V'.cell? ⟨W1.heap.size, 4, none⟩ = some (.int .i64 x.r.2)) (by kernel_rfl) (HSF.out _ hbz) (fun hHeld => ?_)
  refine takesH [0, 1, 2, 3, 4, 6, 7, 8] (by kernel_rfl) (fun _ _ d _ _ h => by cases d <;> exact h) (by kernel_rfl) (by kernel_rfl) (by assumption) ?_
  repeat (first
    | (refine TakeSeq.cons (v := ?_) rfl (by rfl) ?_ ?_
       rotate_left
       · ((intro w hSw; unfold StB at hSw; go_simp) <;> (try with_reducible rfl))
       (try go_simp))
    | (refine TakeSeq.skip rfl (by rfl) ?_; (try go_simp)))
  refine TakeSeq.nil ?_
  refine callH 5 (by kernel_rfl) (by kernel_rfl) rfl (by rfl) ?_
  intro K hK
  go_simp
  go_at_call 45
  with_reducible refine (HVL.out _ hbz).mono ?_
  rintro e4 w4 ⟨rfl, hbn⟩
  have hbz := hbz.trans (hbn.mono hbz.size)
  clear hbn
  refine hK.out _ _ (HSF.out _ hbz) (fun hHeld => ?_)
  clear hK K
  (try go_simp)
  refine callH 9 (by kernel_rfl) (by kernel_rfl) rfl (by rfl) ?_
  intro K hK
  go_simp
  go_at_call 45
  with_reducible refine (HVR.out _ hbz).mono ?_
  rintro e5 w5 ⟨rfl, hbn⟩
  have hbz := hbz.trans (hbn.mono hbz.size)
  clear hbn
  refine hK.out _ _ (HSF.out _ hbz) (fun hHeld => ?_)
  clear hK K
  (try go_simp)
  refine callH 10 (by kernel_rfl) (by kernel_rfl) rfl (by rfl) ?_
  intro K hK
  go_simp
  go_at_call 44
  with_reducible refine (rcmp_any _ _ _ _).mono ?_
  rintro e6 w6 ⟨rfl, rfl⟩
  refine hK.out _ _ (HSF.out _ hbz) (fun hHeld => ?_)
  clear hK K
  (try go_simp)
  refine takesH [11] (by kernel_rfl) (fun _ _ d _ _ h => by cases d <;> exact h) (by kernel_rfl) (by kernel_rfl) (by assumption) ?_
  repeat (first
    | (refine TakeSeq.cons (v := ?_) rfl (by rfl) ?_ ?_
       rotate_left
       · ((intro w hSw; unfold StB at hSw; go_simp) <;> (try with_reducible rfl))
       (try go_simp))
    | (refine TakeSeq.skip rfl (by rfl) ?_; (try go_simp)))
  refine TakeSeq.nil ?_
  refine doneH (by kernel_rfl) ?_
  go_wp2
  go_ret
  exact ⟨ret_bool (HR.out.symm.trans HEV.out).symm, HB.out.trans ((HB3.out.trans (hbz.mono HB3.out.size)).mono HB.out.size)⟩
end Go.Proofs.YtadjnfpomjopkaaGreat
