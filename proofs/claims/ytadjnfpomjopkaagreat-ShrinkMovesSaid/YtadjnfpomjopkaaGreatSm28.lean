/- The reference: Check of a condition (printed by gen_r8.py). -/
import Derived.Test.YtadjnfpomjopkaaGreatSm27

namespace Go.Proofs.YtadjnfpomjopkaaGreat
open Go.RowKit

theorem chk70 (O : List It) : decide (chkN (O.take 70) = 0) = decide (chkN O = 0) := by
  by_cases h : O.length ≤ 70
  · rw [List.take_of_length_le h]
  · have e1 : chkN O = 3 := by unfold chkN; rw [if_neg (by omega), if_pos (by omega)]
    have e2 : chkN (O.take 70) = 3 := by
      have hl : (O.take 70).length = 70 := by rw [List.length_take]; omega
      unfold chkN; rw [if_neg (by omega), if_pos (by omega)]
    rw [e1, e2]
/-- may a condition be asked -/
def ckB (l : List Ins) (s : Sta) : Bool := decide (chkN (l.map itI) = 0) && l.all (okI s)
theorem all_bad {s : Sta} {l : List Ins} {k : Nat} {x : Ins} (h : l[k]? = some x) (hx : okI s x = false) : l.all (okI s) = false := by
  rw [List.all_eq_false]; exact ⟨x, List.mem_of_getElem? h, by rw [hx]; simp⟩
theorem all_good {s : Sta} {l : List Ins} {k : Nat} {x : Ins} (h0 : (l.take k).all (okI s) = true) (h : l[k]? = some x) (hx : okI s x = true) : (l.take (k + 1)).all (okI s) = true := by
  rw [List.take_add_one, List.all_append, h0, h]; simp [hx]
set_option maxRecDepth 100000 in
set_option maxHeartbeats 4000000 in
theorem rckQ {w : World} {r : Stm} {s : Sta} (hs : StQ w r s) {ad : Option Addr} {cp : Nat} {l : List Ins} (hl : RowE instE 7 w (.slice ad l.length cp) l) :
    Calls Tryz.prog 29 #[.slice ad l.length cp, .agg (stC r s), .bool true] w (Ret w (.bool (ckB l s))) := by
  obtain ⟨W1, h1, HB, HS, HF⟩ := boxS hs
  have HL := Lib.hid (hl.below instE_keep HB.out)
  have hmx := hl.max
  have HSH := Lib.hid (rshape_any HL.out)
  have HCK := Lib.hid (fun (V : World) (v : Value) (O : List It) (h : ItRow V v O) => rck4_any (ItIn.of_row h))
  obtain ⟨R, hR⟩ : ∃ R, ckB l s = R := ⟨_, rfl⟩
  have HR0 := Lib.hid hR
  rw [hR]
  have hF := HF.out _ (Below.refl _ _)
  unfold StB at hF
  unfold stC at h1
  unfold stC
  obtain ⟨d0, d1, d2, d3, d4⟩ := hF
  clear hs hl hR
  go_enter Tryz.func29, Tryz.ntmps29
  go_wp2_with fail
  refine HSH.out.mono ?_
  rintro e2 W2 ⟨v2, rfl, hrow, hb2⟩
  have HCX := Lib.hid (HCK.out W2 v2 _ hrow)
  have HB2 := Lib.hid hb2
  clear hrow hb2 d0 d1 d2 d3 d4
  go_wp2_with fail
  refine HCX.out.mono ?_
  rintro e3 W3 ⟨rfl, rfl⟩
  obtain ⟨z, hz⟩ : ∃ z, chkN ((l.map itI).take 70) = z := ⟨_, rfl⟩
  have HZ : Hid (decide (chkN (l.map itI) = 0) = decide (z = 0)) := by unfold Hid; rw [← hz, chk70]
  rw [hz]
  clear hz HCX
  by_cases hz0 : z = 0
  case neg =>
    have HRT : Hid (R = false) := by unfold Hid; rw [← HR0.out]; unfold ckB; rw [HZ.out, decide_eq_false hz0]; rfl
    have hb : (z != 0) = true := by simp [hz0]
    clear hz0
    go_wp2
    go_ret
    exact ⟨ret_bool HRT.out.symm, HB.out.trans (HB2.out.mono HB.out.size)⟩
  have HR : Hid (R = l.all (okI s)) := by unfold Hid; rw [← HR0.out]; unfold ckB; rw [HZ.out, decide_eq_true hz0]; rfl
  subst hz0
  go_wp2
  go_loopw [7, 8] (fun i _ wr => ∃ k : Nat, i = .int .i64 (k : Int) ∧ k ≤ l.length ∧ Hid (Below W1.heap.size W1 wr) ∧ Hid ((l.take k).all (okI s) = true)) (fun i _ _ => l.length - (intOf i).toNat)
  case atStart => exact ⟨0, rfl, Nat.zero_le _, HB2.out, by simp [Hid]⟩
  case round =>
    obtain ⟨k, rfl, hk, HB3, HALL⟩ := hrel
    rcases Nat.lt_or_ge k l.length with hlt | hge
    · obtain ⟨x, hx⟩ : ∃ x, l[k]? = some x := ⟨_, List.getElem?_eq_getElem hlt⟩
      obtain ⟨b, off, c, hv, hbl, a0, a1, a2, a3, a4, a5, a6⟩ := insRow (HL.out.below instE_keep HB3.out) hx
      simp only [Value.slice.injEq, true_and] at hv
      have ha := hv.1
      have hx0 := Lib.hid hx
      have hkz := ltI hlt
      have hk0 : (0 : Int) ≤ (k : Int) := Int.natCast_nonneg _
      have HSF : Hid (∀ V, Below wr.heap.size wr V → StB V w.heap.size r s ∧ V.cell? ⟨b, off + k * 7 + 1, none⟩ = some (.int .i64 x.l.1) ∧ V.cell? ⟨b, off + k * 7 + 2, none⟩ = some (.int .i64 x.l.2) ∧ V.cell? ⟨b, off + k * 7 + 3, none⟩ = some (.int .i64 x.r.1) ∧ V.cell? ⟨b, off + k * 7 + 4, none⟩ = some (.int .i64 x.r.2)) := fun V hV => ⟨HF.out V (HB3.out.trans (hV.mono HB3.out.size)), (hV.cell (p := ⟨b, off + k * 7 + 1, none⟩) hbl).trans a1, (hV.cell (p := ⟨b, off + k * 7 + 2, none⟩) hbl).trans a2, (hV.cell (p := ⟨b, off + k * 7 + 3, none⟩) hbl).trans a3, (hV.cell (p := ⟨b, off + k * 7 + 4, none⟩) hbl).trans a4⟩
      have HTL : Hid (∀ V, Below wr.heap.size wr V → Calls Tryz.prog 42 #[.agg #[.slice r.a0 s.vals.length r.k0, .int .i64 s.opn, .int .i64 s.dne, .slice r.a3 s.did.length r.k3, .slice r.a4 s.cnt.length r.k4], .agg #[.int .i64 x.l.1, .int .i64 x.l.2]] V (Ret V (.bool (thereV s x.l)))) := fun V hV => rthereQ (HS.out.below (HB3.out.trans (hV.mono HB3.out.size))) x.l
      have HTR : Hid (∀ V, Below wr.heap.size wr V → Calls Tryz.prog 42 #[.agg #[.slice r.a0 s.vals.length r.k0, .int .i64 s.opn, .int .i64 s.dne, .slice r.a3 s.did.length r.k3, .slice r.a4 s.cnt.length r.k4], .agg #[.int .i64 x.r.1, .int .i64 x.r.2]] V (Ret V (.bool (thereV s x.r)))) := fun V hV => rthereQ (HS.out.below (HB3.out.trans (hV.mono HB3.out.size))) x.r
      clear hx hv hbl a1 a2 a3 a4 a5 a6
      go_upto_region 7 with fail
      clear a0
      rcases (show 18 < x.op ∨ (10 < x.op ∧ x.op < 15) ∨ (3 ≤ x.op ∧ x.op ≤ 8) ∨ x.op < 3 ∨ (8 < x.op ∧ x.op ≤ 10) ∨ (15 ≤ x.op ∧ x.op ≤ 18) by omega) with q | q | q | q | q | q
      · have hd1 : decide ((18 : Int) < x.op) = true := decide_eq_true (by omega)
        have HOK : Hid (okI s x = false) := by unfold Hid okI; rw [decide_eq_true q]; simp
        clear q
        have hbz : Below wr.heap.size wr wr.drew := (Below.refl _ _).drew
        refine startH (S := fun V => StB V w.heap.size r s ∧ V.cell? ⟨b, off + k * 7 + 1, none⟩ = some (.int .i64 x.l.1) ∧ V.cell? ⟨b, off + k * 7 + 2, none⟩ = some (.int .i64 x.l.2) ∧ V.cell? ⟨b, off + k * 7 + 3, none⟩ = some (.int .i64 x.r.1) ∧ V.cell? ⟨b, off + k * 7 + 4, none⟩ = some (.int .i64 x.r.2)) (by kernel_rfl) (HSF.out _ hbz) (fun hHeld => ?_)
        refine takesH [0, 1, 2, 3, 4, 5, 6, 7, 8, 9, 10, 11, 12, 13, 14, 15, 16, 17, 18, 19, 20, 21, 22, 23, 24, 25, 26, 27, 28, 29, 30, 31, 32, 33, 34, 35, 36, 37, 38, 39, 40] (by kernel_rfl) (fun _ _ d _ _ h => by cases d <;> exact h) (by kernel_rfl) (by kernel_rfl) (by assumption) ?_
        repeat (first
          | (refine TakeSeq.cons (v := ?_) rfl (by rfl) ?_ ?_
             rotate_left
             · ((intro w hSw; unfold StB at hSw; go_simp) <;> (try with_reducible rfl))
             (try rw [hd1])
             (try go_simp))
          | (refine TakeSeq.skip rfl (by rfl) ?_; (try go_simp)))
        refine TakeSeq.nil ?_
        refine doneH (by kernel_rfl) ?_
        have HRT : Hid (R = false) := by unfold Hid; rw [HR.out]; exact all_bad hx0.out HOK.out
        go_wp2
        go_ret
        exact ⟨ret_bool HRT.out.symm, HB.out.trans ((HB3.out.trans (hbz.mono HB3.out.size)).mono HB.out.size)⟩
      · have hd1 : decide ((18 : Int) < x.op) = false := decide_eq_false (by omega)
        have hd2 : decide ((10 : Int) < x.op) = true := decide_eq_true (by omega)
        have hd3 : decide (x.op < (15 : Int)) = true := decide_eq_true (by omega)
        have HOK : Hid (okI s x = false) := by unfold Hid okI; rw [decide_eq_true q.1, decide_eq_true q.2]; simp
        clear q
        have hbz : Below wr.heap.size wr wr.drew := (Below.refl _ _).drew
        refine startH (S := fun V => StB V w.heap.size r s ∧ V.cell? ⟨b, off + k * 7 + 1, none⟩ = some (.int .i64 x.l.1) ∧ V.cell? ⟨b, off + k * 7 + 2, none⟩ = some (.int .i64 x.l.2) ∧ V.cell? ⟨b, off + k * 7 + 3, none⟩ = some (.int .i64 x.r.1) ∧ V.cell? ⟨b, off + k * 7 + 4, none⟩ = some (.int .i64 x.r.2)) (by kernel_rfl) (HSF.out _ hbz) (fun hHeld => ?_)
        refine takesH [0, 1, 2, 3, 4, 5, 6, 7, 8, 9, 10, 11, 12, 13, 14, 15, 16, 17, 18, 19, 20, 21, 22, 23, 24, 25, 26, 27, 28, 29, 30, 31, 32, 33, 34, 35, 36, 37, 38, 39, 40] (by kernel_rfl) (fun _ _ d _ _ h => by cases d <;> exact h) (by kernel_rfl) (by kernel_rfl) (by assumption) ?_
        repeat (first
          | (refine TakeSeq.cons (v := ?_) rfl (by rfl) ?_ ?_
             rotate_left
             · ((intro w hSw; unfold StB at hSw; go_simp) <;> (try with_reducible rfl))
             (try rw [hd1])
             (try rw [hd2])
             (try rw [hd3])
             (try go_simp))
          | (refine TakeSeq.skip rfl (by rfl) ?_; (try go_simp)))
        refine TakeSeq.nil ?_
        refine doneH (by kernel_rfl) ?_
        have HRT : Hid (R = false) := by unfold Hid; rw [HR.out]; exact all_bad hx0.out HOK.out
        go_wp2
        go_ret
        exact ⟨ret_bool HRT.out.symm, HB.out.trans ((HB3.out.trans (hbz.mono HB3.out.size)).mono HB.out.size)⟩
      · cases tl : thereV s x.l
        · rw [tl] at HTL
          have hd1 : decide ((18 : Int) < x.op) = false := decide_eq_false (by omega)
          have hd2 : decide ((10 : Int) < x.op) = false := decide_eq_false (by omega)
          have hd4 : decide ((3 : Int) ≤ x.op) = true := decide_eq_true (by omega)
          have hd5 : decide (x.op ≤ (8 : Int)) = true := decide_eq_true (by omega)
          have HOK : Hid (okI s x = false) := by unfold Hid okI; rw [decide_eq_true q.1, decide_eq_true q.2, tl]; simp
          clear q tl
          have hbz : Below wr.heap.size wr wr.drew := (Below.refl _ _).drew
          refine startH (S := fun V => StB V w.heap.size r s ∧ V.cell? ⟨b, off + k * 7 + 1, none⟩ = some (.int .i64 x.l.1) ∧ V.cell? ⟨b, off + k * 7 + 2, none⟩ = some (.int .i64 x.l.2) ∧ V.cell? ⟨b, off + k * 7 + 3, none⟩ = some (.int .i64 x.r.1) ∧ V.cell? ⟨b, off + k * 7 + 4, none⟩ = some (.int .i64 x.r.2)) (by kernel_rfl) (HSF.out _ hbz) (fun hHeld => ?_)
          refine takesH [0, 1, 2, 3, 4, 5, 6, 7, 8, 9, 10, 11, 12, 13, 14, 15, 16, 17, 18, 19, 20, 21, 22, 23, 24, 25, 26] (by kernel_rfl) (fun _ _ d _ _ h => by cases d <;> exact h) (by kernel_rfl) (by kernel_rfl) (by assumption) ?_
          repeat (first
            | (refine TakeSeq.cons (v := ?_) rfl (by rfl) ?_ ?_
               rotate_left
               · ((intro w hSw; unfold StB at hSw; go_simp) <;> (try with_reducible rfl))
               (try rw [hd1])
               (try rw [hd2])
               (try rw [hd4])
               (try rw [hd5])
               (try go_simp))
            | (refine TakeSeq.skip rfl (by rfl) ?_; (try go_simp)))
          refine TakeSeq.nil ?_
          refine callH 27 (by kernel_rfl) (by kernel_rfl) rfl (by rfl) ?_
          intro K hK
          go_simp
          go_at_call 42
          with_reducible refine (HTL.out _ hbz).mono ?_
          rintro e w5 ⟨rfl, hbn⟩
          have hbz := hbz.trans (hbn.mono hbz.size)
          refine hK.out _ _ (HSF.out _ hbz) (fun hHeld => ?_)
          clear hK K hbn
          (try go_simp)
          refine takesH [28, 29, 30, 31, 32, 33, 34, 35, 36, 37, 38, 39, 40] (by kernel_rfl) (fun _ _ d _ _ h => by cases d <;> exact h) (by kernel_rfl) (by kernel_rfl) (by assumption) ?_
          repeat (first
            | (refine TakeSeq.cons (v := ?_) rfl (by rfl) ?_ ?_
               rotate_left
               · ((intro w hSw; unfold StB at hSw; go_simp) <;> (try with_reducible rfl))
               (try rw [hd1])
               (try rw [hd2])
               (try rw [hd4])
               (try rw [hd5])
               (try go_simp))
            | (refine TakeSeq.skip rfl (by rfl) ?_; (try go_simp)))
          refine TakeSeq.nil ?_
          refine doneH (by kernel_rfl) ?_
          have HRT : Hid (R = false) := by unfold Hid; rw [HR.out]; exact all_bad hx0.out HOK.out
          go_wp2
          go_ret
          exact ⟨ret_bool HRT.out.symm, HB.out.trans ((HB3.out.trans (hbz.mono HB3.out.size)).mono HB.out.size)⟩
        · rw [tl] at HTL
          cases tr : thereV s x.r
          · rw [tr] at HTR
            have hd1 : decide ((18 : Int) < x.op) = false := decide_eq_false (by omega)
            have hd2 : decide ((10 : Int) < x.op) = false := decide_eq_false (by omega)
            have hd4 : decide ((3 : Int) ≤ x.op) = true := decide_eq_true (by omega)
            have hd5 : decide (x.op ≤ (8 : Int)) = true := decide_eq_true (by omega)
            have HOK : Hid (okI s x = false) := by unfold Hid okI; rw [decide_eq_true q.1, decide_eq_true q.2, tr]; simp
            clear q tl tr
            have hbz : Below wr.heap.size wr wr.drew := (Below.refl _ _).drew
            refine startH (S := fun V => StB V w.heap.size r s ∧ V.cell? ⟨b, off + k * 7 + 1, none⟩ = some (.int .i64 x.l.1) ∧ V.cell? ⟨b, off + k * 7 + 2, none⟩ = some (.int .i64 x.l.2) ∧ V.cell? ⟨b, off + k * 7 + 3, none⟩ = some (.int .i64 x.r.1) ∧ V.cell? ⟨b, off + k * 7 + 4, none⟩ = some (.int .i64 x.r.2)) (by kernel_rfl) (HSF.out _ hbz) (fun hHeld => ?_)
            refine takesH [0, 1, 2, 3, 4, 5, 6, 7, 8, 9, 10, 11, 12, 13, 14, 15, 16, 17, 18, 19, 20, 21, 22, 23, 24, 25, 26] (by kernel_rfl) (fun _ _ d _ _ h => by cases d <;> exact h) (by kernel_rfl) (by kernel_rfl) (by assumption) ?_
            repeat (first
              | (refine TakeSeq.cons (v := ?_) rfl (by rfl) ?_ ?_
                 rotate_left
                 · ((intro w hSw; unfold StB at hSw; go_simp) <;> (try with_reducible rfl))
                 (try rw [hd1])
                 (try rw [hd2])
                 (try rw [hd4])
                 (try rw [hd5])
                 (try go_simp))
              | (refine TakeSeq.skip rfl (by rfl) ?_; (try go_simp)))
            refine TakeSeq.nil ?_
            refine callH 27 (by kernel_rfl) (by kernel_rfl) rfl (by rfl) ?_
            intro K hK
            go_simp
            go_at_call 42
            with_reducible refine (HTL.out _ hbz).mono ?_
            rintro e w5 ⟨rfl, hbn⟩
            have hbz := hbz.trans (hbn.mono hbz.size)
            refine hK.out _ _ (HSF.out _ hbz) (fun hHeld => ?_)
            clear hK K hbn
            (try go_simp)
            refine takesH [28, 29, 30, 31, 32, 33, 34, 35] (by kernel_rfl) (fun _ _ d _ _ h => by cases d <;> exact h) (by kernel_rfl) (by kernel_rfl) (by assumption) ?_
            repeat (first
              | (refine TakeSeq.cons (v := ?_) rfl (by rfl) ?_ ?_
                 rotate_left
                 · ((intro w hSw; unfold StB at hSw; go_simp) <;> (try with_reducible rfl))
                 (try rw [hd1])
                 (try rw [hd2])
                 (try rw [hd4])
                 (try rw [hd5])
                 (try go_simp))
              | (refine TakeSeq.skip rfl (by rfl) ?_; (try go_simp)))
            refine TakeSeq.nil ?_
            refine callH 36 (by kernel_rfl) (by kernel_rfl) rfl (by rfl) ?_
            intro K hK
            go_simp
            go_at_call 42
            with_reducible refine (HTR.out _ hbz).mono ?_
            rintro e w5 ⟨rfl, hbn⟩
            have hbz := hbz.trans (hbn.mono hbz.size)
            refine hK.out _ _ (HSF.out _ hbz) (fun hHeld => ?_)
            clear hK K hbn
            (try go_simp)
            refine takesH [37, 38, 39, 40] (by kernel_rfl) (fun _ _ d _ _ h => by cases d <;> exact h) (by kernel_rfl) (by kernel_rfl) (by assumption) ?_
            repeat (first
              | (refine TakeSeq.cons (v := ?_) rfl (by rfl) ?_ ?_
                 rotate_left
                 · ((intro w hSw; unfold StB at hSw; go_simp) <;> (try with_reducible rfl))
                 (try rw [hd1])
                 (try rw [hd2])
                 (try rw [hd4])
                 (try rw [hd5])
                 (try go_simp))
              | (refine TakeSeq.skip rfl (by rfl) ?_; (try go_simp)))
            refine TakeSeq.nil ?_
            refine doneH (by kernel_rfl) ?_
            have HRT : Hid (R = false) := by unfold Hid; rw [HR.out]; exact all_bad hx0.out HOK.out
            go_wp2
            go_ret
            exact ⟨ret_bool HRT.out.symm, HB.out.trans ((HB3.out.trans (hbz.mono HB3.out.size)).mono HB.out.size)⟩
          · rw [tr] at HTR
            have hd1 : decide ((18 : Int) < x.op) = false := decide_eq_false (by omega)
            have hd2 : decide ((10 : Int) < x.op) = false := decide_eq_false (by omega)
            have hd4 : decide ((3 : Int) ≤ x.op) = true := decide_eq_true (by omega)
            have hd5 : decide (x.op ≤ (8 : Int)) = true := decide_eq_true (by omega)
            have HOK : Hid (okI s x = true) := by unfold Hid okI; rw [decide_eq_false (show ¬ 18 < x.op by omega), decide_eq_false (show ¬ 10 < x.op by omega), decide_eq_true q.1, decide_eq_true q.2, tl, tr]; rfl
            clear q tl tr
            have hbz : Below wr.heap.size wr wr.drew := (Below.refl _ _).drew
            refine startH (S := fun V => StB V w.heap.size r s ∧ V.cell? ⟨b, off + k * 7 + 1, none⟩ = some (.int .i64 x.l.1) ∧ V.cell? ⟨b, off + k * 7 + 2, none⟩ = some (.int .i64 x.l.2) ∧ V.cell? ⟨b, off + k * 7 + 3, none⟩ = some (.int .i64 x.r.1) ∧ V.cell? ⟨b, off + k * 7 + 4, none⟩ = some (.int .i64 x.r.2)) (by kernel_rfl) (HSF.out _ hbz) (fun hHeld => ?_)
            refine takesH [0, 1, 2, 3, 4, 5, 6, 7, 8, 9, 10, 11, 12, 13, 14, 15, 16, 17, 18, 19, 20, 21, 22, 23, 24, 25, 26] (by kernel_rfl) (fun _ _ d _ _ h => by cases d <;> exact h) (by kernel_rfl) (by kernel_rfl) (by assumption) ?_
            repeat (first
              | (refine TakeSeq.cons (v := ?_) rfl (by rfl) ?_ ?_
                 rotate_left
                 · ((intro w hSw; unfold StB at hSw; go_simp) <;> (try with_reducible rfl))
                 (try rw [hd1])
                 (try rw [hd2])
                 (try rw [hd4])
                 (try rw [hd5])
                 (try go_simp))
              | (refine TakeSeq.skip rfl (by rfl) ?_; (try go_simp)))
            refine TakeSeq.nil ?_
            refine callH 27 (by kernel_rfl) (by kernel_rfl) rfl (by rfl) ?_
            intro K hK
            go_simp
            go_at_call 42
            with_reducible refine (HTL.out _ hbz).mono ?_
            rintro e w5 ⟨rfl, hbn⟩
            have hbz := hbz.trans (hbn.mono hbz.size)
            refine hK.out _ _ (HSF.out _ hbz) (fun hHeld => ?_)
            clear hK K hbn
            (try go_simp)
            refine takesH [28, 29, 30, 31, 32, 33, 34, 35] (by kernel_rfl) (fun _ _ d _ _ h => by cases d <;> exact h) (by kernel_rfl) (by kernel_rfl) (by assumption) ?_
            repeat (first
              | (refine TakeSeq.cons (v := ?_) rfl (by rfl) ?_ ?_
                 rotate_left
                 · ((intro w hSw; unfold StB at hSw; go_simp) <;> (try with_reducible rfl))
                 (try rw [hd1])
                 (try rw [hd2])
                 (try rw [hd4])
                 (try rw [hd5])
                 (try go_simp))
              | (refine TakeSeq.skip rfl (by rfl) ?_; (try go_simp)))
            refine TakeSeq.nil ?_
            refine callH 36 (by kernel_rfl) (by kernel_rfl) rfl (by rfl) ?_
            intro K hK
            go_simp
            go_at_call 42
            with_reducible refine (HTR.out _ hbz).mono ?_
            rintro e w5 ⟨rfl, hbn⟩
            have hbz := hbz.trans (hbn.mono hbz.size)
            refine hK.out _ _ (HSF.out _ hbz) (fun hHeld => ?_)
            clear hK K hbn
            (try go_simp)
            refine takesH [37, 38, 39, 40] (by kernel_rfl) (fun _ _ d _ _ h => by cases d <;> exact h) (by kernel_rfl) (by kernel_rfl) (by assumption) ?_
            repeat (first
              | (refine TakeSeq.cons (v := ?_) rfl (by rfl) ?_ ?_
                 rotate_left
                 · ((intro w hSw; unfold StB at hSw; go_simp) <;> (try with_reducible rfl))
                 (try rw [hd1])
                 (try rw [hd2])
                 (try rw [hd4])
                 (try rw [hd5])
                 (try go_simp))
              | (refine TakeSeq.skip rfl (by rfl) ?_; (try go_simp)))
            refine TakeSeq.nil ?_
            refine doneH (by kernel_rfl) ?_
            go_wp2
            (try rw [← ha])
            go_roundw
            case rel => exact ⟨k + 1, by go_num, hlt, HB3.out.trans (hbz.mono HB3.out.size), all_good HALL.out hx0.out HOK.out⟩
            case measure => simp [intOf]; omega
      · have hd1 : decide ((18 : Int) < x.op) = false := decide_eq_false (by omega)
        have hd2 : decide ((10 : Int) < x.op) = false := decide_eq_false (by omega)
        have hd4 : decide ((3 : Int) ≤ x.op) = false := decide_eq_false (by omega)
        have HOK : Hid (okI s x = true) := by unfold Hid okI; rw [decide_eq_false (show ¬ 18 < x.op by omega), decide_eq_false (show ¬ 10 < x.op by omega), decide_eq_false (show ¬ 3 ≤ x.op by omega)]; rfl
        clear q
        have hbz : Below wr.heap.size wr wr.drew := (Below.refl _ _).drew
        refine startH (S := fun V => StB V w.heap.size r s ∧ V.cell? ⟨b, off + k * 7 + 1, none⟩ = some (.int .i64 x.l.1) ∧ V.cell? ⟨b, off + k * 7 + 2, none⟩ = some (.int .i64 x.l.2) ∧ V.cell? ⟨b, off + k * 7 + 3, none⟩ = some (.int .i64 x.r.1) ∧ V.cell? ⟨b, off + k * 7 + 4, none⟩ = some (.int .i64 x.r.2)) (by kernel_rfl) (HSF.out _ hbz) (fun hHeld => ?_)
        refine takesH [0, 1, 2, 3, 4, 5, 6, 7, 8, 9, 10, 11, 12, 13, 14, 15, 16, 17, 18, 19, 20, 21, 22, 23, 24, 25, 26, 27, 28, 29, 30, 31, 32, 33, 34, 35, 36, 37, 38, 39, 40] (by kernel_rfl) (fun _ _ d _ _ h => by cases d <;> exact h) (by kernel_rfl) (by kernel_rfl) (by assumption) ?_
        repeat (first
          | (refine TakeSeq.cons (v := ?_) rfl (by rfl) ?_ ?_
             rotate_left
             · ((intro w hSw; unfold StB at hSw; go_simp) <;> (try with_reducible rfl))
             (try rw [hd1])
             (try rw [hd2])
             (try rw [hd4])
             (try go_simp))
          | (refine TakeSeq.skip rfl (by rfl) ?_; (try go_simp)))
        refine TakeSeq.nil ?_
        refine doneH (by kernel_rfl) ?_
        go_wp2
        (try rw [← ha])
        go_roundw
        case rel => exact ⟨k + 1, by go_num, hlt, HB3.out.trans (hbz.mono HB3.out.size), all_good HALL.out hx0.out HOK.out⟩
        case measure => simp [intOf]; omega
      · have hd1 : decide ((18 : Int) < x.op) = false := decide_eq_false (by omega)
        have hd2 : decide ((10 : Int) < x.op) = false := decide_eq_false (by omega)
        have hd4 : decide ((3 : Int) ≤ x.op) = true := decide_eq_true (by omega)
        have hd5 : decide (x.op ≤ (8 : Int)) = false := decide_eq_false (by omega)
        have HOK : Hid (okI s x = true) := by unfold Hid okI; rw [decide_eq_false (show ¬ 18 < x.op by omega), decide_eq_false (show ¬ 10 < x.op by omega), decide_eq_false (show ¬ x.op ≤ 8 by omega)]; simp
        clear q
        have hbz : Below wr.heap.size wr wr.drew := (Below.refl _ _).drew
        refine startH (S := fun V => StB V w.heap.size r s ∧ V.cell? ⟨b, off + k * 7 + 1, none⟩ = some (.int .i64 x.l.1) ∧ V.cell? ⟨b, off + k * 7 + 2, none⟩ = some (.int .i64 x.l.2) ∧ V.cell? ⟨b, off + k * 7 + 3, none⟩ = some (.int .i64 x.r.1) ∧ V.cell? ⟨b, off + k * 7 + 4, none⟩ = some (.int .i64 x.r.2)) (by kernel_rfl) (HSF.out _ hbz) (fun hHeld => ?_)
        refine takesH [0, 1, 2, 3, 4, 5, 6, 7, 8, 9, 10, 11, 12, 13, 14, 15, 16, 17, 18, 19, 20, 21, 22, 23, 24, 25, 26, 27, 28, 29, 30, 31, 32, 33, 34, 35, 36, 37, 38, 39, 40] (by kernel_rfl) (fun _ _ d _ _ h => by cases d <;> exact h) (by kernel_rfl) (by kernel_rfl) (by assumption) ?_
        repeat (first
          | (refine TakeSeq.cons (v := ?_) rfl (by rfl) ?_ ?_
             rotate_left
             · ((intro w hSw; unfold StB at hSw; go_simp) <;> (try with_reducible rfl))
             (try rw [hd1])
             (try rw [hd2])
             (try rw [hd4])
             (try rw [hd5])
             (try go_simp))
          | (refine TakeSeq.skip rfl (by rfl) ?_; (try go_simp)))
        refine TakeSeq.nil ?_
        refine doneH (by kernel_rfl) ?_
        go_wp2
        (try rw [← ha])
        go_roundw
        case rel => exact ⟨k + 1, by go_num, hlt, HB3.out.trans (hbz.mono HB3.out.size), all_good HALL.out hx0.out HOK.out⟩
        case measure => simp [intOf]; omega
      · have hd1 : decide ((18 : Int) < x.op) = false := decide_eq_false (by omega)
        have hd2 : decide ((10 : Int) < x.op) = true := decide_eq_true (by omega)
        have hd3 : decide (x.op < (15 : Int)) = false := decide_eq_false (by omega)
        have hd4 : decide ((3 : Int) ≤ x.op) = true := decide_eq_true (by omega)
        have hd5 : decide (x.op ≤ (8 : Int)) = false := decide_eq_false (by omega)
        have HOK : Hid (okI s x = true) := by unfold Hid okI; rw [decide_eq_false (show ¬ 18 < x.op by omega), decide_eq_false (show ¬ x.op < 15 by omega), decide_eq_false (show ¬ x.op ≤ 8 by omega)]; simp
        clear q
        have hbz : Below wr.heap.size wr wr.drew := (Below.refl _ _).drew
        refine startH (S := fun V => StB V w.heap.size r s ∧ V.cell? ⟨b, off + k * 7 + 1, none⟩ = some (.int .i64 x.l.1) ∧ V.cell? ⟨b, off + k * 7 + 2, none⟩ = some (.int .i64 x.l.2) ∧ V.cell? ⟨b, off + k * 7 + 3, none⟩ = some (.int .i64 x.r.1) ∧ V.cell? ⟨b, off + k * 7 + 4, none⟩ = some (.int .i64 x.r.2)) (by kernel_rfl) (HSF.out _ hbz) (fun hHeld => ?_)
        refine takesH [0, 1, 2, 3, 4, 5, 6, 7, 8, 9, 10, 11, 12, 13, 14, 15, 16, 17, 18, 19, 20, 21, 22, 23, 24, 25, 26, 27, 28, 29, 30, 31, 32, 33, 34, 35, 36, 37, 38, 39, 40] (by kernel_rfl) (fun _ _ d _ _ h => by cases d <;> exact h) (by kernel_rfl) (by kernel_rfl) (by assumption) ?_
        repeat (first
          | (refine TakeSeq.cons (v := ?_) rfl (by rfl) ?_ ?_
             rotate_left
             · ((intro w hSw; unfold StB at hSw; go_simp) <;> (try with_reducible rfl))
             (try rw [hd1])
             (try rw [hd2])
             (try rw [hd3])
             (try rw [hd4])
             (try rw [hd5])
             (try go_simp))
          | (refine TakeSeq.skip rfl (by rfl) ?_; (try go_simp)))
        refine TakeSeq.nil ?_
        refine doneH (by kernel_rfl) ?_
        go_wp2
        (try rw [← ha])
        go_roundw
        case rel => exact ⟨k + 1, by go_num, hlt, HB3.out.trans (hbz.mono HB3.out.size), all_good HALL.out hx0.out HOK.out⟩
        case measure => simp [intOf]; omega
    · have hkn : k = l.length := by omega
      have HRT : Hid (R = true) := by unfold Hid; rw [HR.out, ← HALL.out, hkn, List.take_length]
      have hge' := nltI (Nat.not_lt.2 hge)
      clear hkn
      go_wp2
      go_ret
      exact ⟨ret_bool HRT.out.symm, HB.out.trans (HB3.out.mono HB.out.size)⟩
end Go.Proofs.YtadjnfpomjopkaaGreat
