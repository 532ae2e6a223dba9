/- The reference: At of a tree, Holds (printed by gen_r10.py). The reference: Fires (printed by gen_r11.py). -/
import Derived.Test.YtadjnfpomjopkaaGreatSm30

namespace Go.Proofs.YtadjnfpomjopkaaGreat
open Go.RowKit

theorem map_drop_cons {l : List Ins} {a : Nat} {y : It} {r : List It} (h : (l.drop a).map itI = y :: r) : ∃ x, l[a]? = some x ∧ itI x = y ∧ a < l.length := by
  cases hl : l.drop a with
  | nil => rw [hl] at h; cases h
  | cons x t =>
    rw [hl, List.map_cons] at h
    obtain ⟨h1, h2, -⟩ := drop_cons hl
    exact ⟨x, h2, (List.cons.inj h).1, h1⟩
theorem ok_leaf {s : Sta} {x : Ins} (h : okI s x = true) (h0 : arN x.op = 0) : 1 ≤ x.op ∧ x.op ≤ 10 ∧ (3 ≤ x.op ∧ x.op ≤ 8 → thereV s x.l = true ∧ thereV s x.r = true) := by
  have h1 := ar0 h0
  refine ⟨h1.1, ?_, fun h2 => ?_⟩
  · rcases Int.lt_or_le 10 x.op with q | q
    · exfalso
      unfold okI at h
      rw [decide_eq_true q, decide_eq_true (show x.op < 15 by omega)] at h
      simp at h
    · exact q
  · unfold okI at h
    rw [decide_eq_true h2.1, decide_eq_true h2.2] at h
    cases hl : thereV s x.l <;> cases hr : thereV s x.r <;> rw [hl, hr] at h <;> simp at h <;> simp
theorem flat_pos : ∀ f : Fm, 0 < f.flat.length
  | .leaf _ _ => by simp [Fm.flat]
  | .one _ _ _ => by simp [Fm.flat]
  | .two _ _ _ _ => by simp [Fm.flat]; omega
theorem at_all {l : List Ins} {r : Stm} {s : Sta} (hl : l.length ≤ 64) (hok : ∀ x ∈ l, okI s x = true) (hsk : SOK s) : ∀ (f : Fm) (a e : Nat) (R : List It), (l.drop a).map itI = f.flat ++ R → e + 1 = a + f.flat.length → AtK l r s f a e
  | .leaf y hy, a, e, R, hd, he => by
    obtain ⟨x, hx, hxy, -⟩ := map_drop_cons (by rw [hd]; rfl)
    have hea : e = a := by simp [Fm.flat] at he; omega
    subst hea
    have h0 : arN x.op = 0 := by rw [← hxy] at hy; exact hy
    obtain ⟨h1, h2, h3⟩ := ok_leaf (hok x (List.mem_of_getElem? hx)) h0
    rcases (show x.op = 1 ∨ x.op = 2 ∨ x.op = 3 ∨ x.op = 4 ∨ x.op = 5 ∨ x.op = 6 ∨ x.op = 7 ∨ x.op = 8 ∨ x.op = 9 ∨ x.op = 10 by omega) with q | q | q | q | q | q | q | q | q | q
    · exact at_1 hx q
    · exact at_2 hx q
    · exact at_3 hx (h3 (by omega)).1 (h3 (by omega)).2 q
    · exact at_4 hx (h3 (by omega)).1 (h3 (by omega)).2 q
    · exact at_5 hx (h3 (by omega)).1 (h3 (by omega)).2 q
    · exact at_6 hx (h3 (by omega)).1 (h3 (by omega)).2 q
    · exact at_7 hx (h3 (by omega)).1 (h3 (by omega)).2 q
    · exact at_8 hx (h3 (by omega)).1 (h3 (by omega)).2 q
    · exact at_9 hx hsk q
    · exact at_10 hx hsk q
  | .one y hy f, a, e, R, hd, he => by
    have hd' : (l.drop a).map itI = f.flat ++ (y :: R) := by rw [hd, Fm.flat, List.append_assoc]; rfl
    have hlen : (Fm.one y hy f).flat.length = f.flat.length + 1 := by simp [Fm.flat]
    have hfp := flat_pos f
    have hx' : (l.drop (a + f.flat.length)).map itI = y :: R := by
      rw [← List.drop_drop, List.map_drop, hd', List.drop_left]
    obtain ⟨x, hx, hxy, -⟩ := map_drop_cons hx'
    obtain ⟨e', rfl⟩ : ∃ e', e = e' + 1 := ⟨e - 1, by omega⟩
    have hxe : l[e' + 1]? = some x := by rw [show e' + 1 = a + f.flat.length by omega]; exact hx
    have h1 : arN x.op = 1 := by rw [← hxy] at hy; exact hy
    have hop : x.op = 15 := by
      rcases ar1 h1 with q | q
      · exact q
      · have := hok x (List.mem_of_getElem? hx)
        rw [okI_bad q.1] at this; cases this
    exact at_15 hxe hl hop (at_all hl hok hsk f a e' _ hd' (by omega))
  | .two y hy f g, a, e, R, hd, he => by
    have hd' : (l.drop a).map itI = f.flat ++ (g.flat ++ (y :: R)) := by rw [hd, Fm.flat, List.append_assoc, List.append_assoc]; rfl
    have hlen : (Fm.two y hy f g).flat.length = f.flat.length + g.flat.length + 1 := by simp [Fm.flat]; omega
    have hfp := flat_pos f
    have hgp := flat_pos g
    have hg' : (l.drop (a + f.flat.length)).map itI = g.flat ++ (y :: R) := by
      rw [← List.drop_drop, List.map_drop, hd', List.drop_left]
    have hx' : (l.drop (a + f.flat.length + g.flat.length)).map itI = y :: R := by
      rw [← List.drop_drop, List.map_drop, hg', List.drop_left]
    obtain ⟨x, hx, hxy, hal⟩ := map_drop_cons hx'
    obtain ⟨e', rfl⟩ : ∃ e', e = e' + 1 := ⟨e - 1, by omega⟩
    obtain ⟨k, hk⟩ : ∃ k, k + 1 = a + f.flat.length := ⟨a + f.flat.length - 1, by omega⟩
    have hxe : l[e' + 1]? = some x := by rw [show e' + 1 = a + f.flat.length + g.flat.length by omega]; exact hx
    have h2 : arN x.op = 2 := by rw [← hxy] at hy; exact hy
    have hyo : y.op = x.op := by rw [← hxy]; rfl
    have hbeg : begB (l.map itI) (e' + 1) 1 = (k : Int) + 1 := by
      have hO : l.map itI = ((l.take a).map itI ++ f.flat) ++ g.flat ++ (y :: R) := by
        rw [List.append_assoc, List.append_assoc, ← hd', ← List.map_append, List.take_append_drop]
      have hA : ((l.take a).map itI ++ f.flat).length = a + f.flat.length := by
        rw [List.length_append, List.length_map, List.length_take]; omega
      have h := begB_tree g ((l.take a).map itI ++ f.flat) (y :: R) 1 (by omega)
      rw [if_pos rfl, hA, ← hO] at h
      rw [show e' + 1 = a + f.flat.length + g.flat.length by omega, h]
      omega
    have hF := at_all (r := r) hl hok hsk f a k _ hd' (by omega)
    have hG := at_all (r := r) hl hok hsk g (a + f.flat.length) e' _ hg' (by omega)
    rcases ar2 h2 with q | q
    · rcases (show x.op = 16 ∨ x.op = 17 ∨ x.op = 18 by omega) with p | p | p
      · exact at_16 hxe hl p (by omega) hbeg hF hG
      · exact at_17 hxe hl p (by omega) hbeg hF hG
      · exact at_18 hxe hl p (by omega) hbeg hF hG
    · have := hok x (List.mem_of_getElem? hx)
      rw [okI_bad (by omega)] at this; cases this
theorem condO_ck {s : Sta} {l : List Ins} (h : ckB l s = false) : condO l s = none := by
  unfold ckB at h
  by_cases h0 : chkN (l.map itI) = 0
  · obtain ⟨-, -, f, hf⟩ := chk_ok h0
    rw [decide_eq_true h0, Bool.true_and] at h
    rw [condO_tree hf h0, h]; rfl
  · exact condO_bad h0
theorem condO_good {s : Sta} {l : List Ins} (h : ckB l s = true) : ∃ f : Fm, f.flat = l.map itI ∧ l.length ≤ 64 ∧ 0 < l.length ∧ (∀ x ∈ l, okI s x = true) ∧ condO l s = some (evF s l f 0) := by
  unfold ckB at h
  simp only [Bool.and_eq_true, decide_eq_true_eq] at h
  obtain ⟨h1, h2, f, hf⟩ := chk_ok h.1
  rw [List.length_map] at h1 h2
  exact ⟨f, hf, h2, h1, fun x hx => List.all_eq_true.1 h.2 x hx, by rw [condO_tree hf h.1, if_pos h.2]⟩

set_option maxRecDepth 100000 in
set_option maxHeartbeats 2000000 in
theorem rholdsQ {w : World} {r : Stm} {s : Sta} (hs : StQ w r s) (hsk : SOK s) {ad : Option Addr} {cp : Nat} {l : List Ins} (hl : RowE instE 7 w (.slice ad l.length cp) l) :
    Calls Tryz.prog 20 #[.slice ad l.length cp, .agg (stC r s)] w (Ret w (condV (condO l s))) := by
  obtain ⟨W1, h1, HB, HS, HF⟩ := boxS hs
  have HL := Lib.hid (hl.below instE_keep HB.out)
  have HSK := Lib.hid hsk
  have HCK := Lib.hid (rckQ HS.out HL.out)
  have hF := HF.out _ (Below.refl _ _)
  unfold StB at hF
  unfold stC at h1 HCK
  unfold stC
  obtain ⟨d0, d1, d2, d3, d4⟩ := hF
  cases hc : ckB l s
  · rw [hc] at HCK
    rw [condO_ck hc]
    unfold condV
    clear hs hl hsk hc
    go_enter Tryz.func20, Tryz.ntmps20
    go_wp2_with fail
    refine HCK.out.mono ?_
    rintro e2 W2 ⟨rfl, hb2⟩
    have HB2 := Lib.hid (HB.out.trans (hb2.mono HB.out.size))
    clear hb2 d0 d1 d2 d3 d4
    go_wp2
    go_ret2
    exact ⟨rfl, HB2.out⟩
  · obtain ⟨f, hf, hl64, hl0, hok, hcd⟩ := condO_good hc
    obtain ⟨n, hn⟩ : ∃ n, l.length = n + 1 := ⟨l.length - 1, by omega⟩
    have hAT := at_all (r := r) hl64 hok hsk f 0 n [] (by rw [List.drop_zero, List.append_nil, hf]) (by rw [hf, List.length_map]; omega)
    have HAT := Lib.hid hAT
    rw [hc] at HCK
    obtain ⟨R, hR⟩ : ∃ R, evF s l f 0 = R := ⟨_, rfl⟩
    have HR := Lib.hid hR
    rw [hcd, hR]
    unfold condV
    have HT70 : Hid ((l.map itI).take 70 = l.map itI) := List.take_of_length_le (by rw [List.length_map]; omega)
    obtain ⟨m, hm⟩ : ∃ m, l.length = m := ⟨_, rfl⟩
    have HM := Lib.hid hm
    have hw2 : IntKind.i64.wrap ((m : Int) - 1) = (n : Int) := by rw [show (m : Int) - 1 = (n : Int) by omega]; exact IntWalk.i64_in _ ⟨by omega, by omega⟩
    have hw1 : wrap64 ((m : Int) - 1) = (n : Int) := by unfold wrap64; omega
    rw [hm] at HCK HL ⊢
    clear hs hl hsk hc hcd hf hl64 hl0 hok hn hAT hR hm
    go_enter Tryz.func20, Tryz.ntmps20
    go_wp2_with fail
    refine HCK.out.mono ?_
    rintro e2 W2 ⟨rfl, hb2⟩
    have HB2 := Lib.hid hb2
    have HSF : Hid (∀ V, Below W2.heap.size W2 V → StB V w.heap.size r s) := fun V hV => HF.out V (HB2.out.trans (hV.mono HB2.out.size))
    have HSH : Hid (∀ V, Below W2.heap.size W2 V → Calls Tryz.prog 31 #[.slice ad m cp] V fun e w' => ∃ v', e = .returned v' ∧ ItRow w' v' ((l.map itI).take 70) ∧ Below V.heap.size V w') := fun V hV => rshape_any (HL.out.below instE_keep (HB2.out.trans (hV.mono HB2.out.size)))
    clear hb2
    go_upto_region 3 with fail
    clear d0 d1 d2 d3 d4
    have hbz : Below W2.heap.size W2 W2.drew := (Below.refl _ _).drew
    refine startH (S := fun V => StB V w.heap.size r s) (by kernel_rfl) (HSF.out _ hbz) (fun hHeld => ?_)
    refine takesH [0, 1, 3, 4, 5, 6] (by kernel_rfl) (fun _ _ d _ _ h => by cases d <;> exact h) (by kernel_rfl) (by kernel_rfl) (by assumption) ?_
    repeat (first
      | (refine TakeSeq.cons (v := ?_) rfl (by rfl) ?_ ?_
         rotate_left
         · ((intro w hSw; unfold StB at hSw; go_simp) <;> (try with_reducible rfl))
         (try go_simp))
      | (refine TakeSeq.skip rfl (by rfl) ?_; (try go_simp)))
    refine TakeSeq.nil ?_
    refine callH 2 (by kernel_rfl) (by kernel_rfl) rfl (by rfl) ?_
    intro K hK
    go_simp
    go_at_call 31
    with_reducible refine (HSH.out _ hbz).mono ?_
    rintro e4 w4 ⟨v4, rfl, hrow, hbn⟩
    have hbz := hbz.trans (hbn.mono hbz.size)
    rw [HT70.out] at hrow
    refine hK.out _ _ (HSF.out _ hbz) (fun hHeld => ?_)
    clear hK K hbn
    (try go_simp)
    have HAX : Hid (Calls Tryz.prog 30 #[.slice ad m cp, v4, .int .i64 (n : Int), .agg #[.slice r.a0 s.vals.length r.k0, .int .i64 s.opn, .int .i64 s.dne, .slice r.a3 s.did.length r.k3, .slice r.a4 s.cnt.length r.k4]] w4 (Ret w4 (.bool R))) := by
      have h := HAT.out w4 (.slice ad m cp) v4 (HS.out.below (HB2.out.trans (hbz.mono HB2.out.size))) (HL.out.below instE_keep (HB2.out.trans (hbz.mono HB2.out.size))) (ItIn.of_row hrow)
      rw [HR.out] at h
      unfold stC at h
      exact h
    refine callH 7 (by kernel_rfl) (by kernel_rfl) rfl (by rfl) ?_
    intro K hK
    go_simp
    go_at_call 30
    with_reducible refine HAX.out.mono ?_
    rintro e5 w5 ⟨rfl, hbn⟩
    have hbz := hbz.trans (hbn.mono hbz.size)
    refine hK.out _ _ (HSF.out _ hbz) (fun hHeld => ?_)
    clear hK K hbn
    (try go_simp)
    refine takesH [8, 9] (by kernel_rfl) (fun _ _ d _ _ h => by cases d <;> exact h) (by kernel_rfl) (by kernel_rfl) (by assumption) ?_
    repeat (first
      | (refine TakeSeq.cons (v := ?_) rfl (by rfl) ?_ ?_
         rotate_left
         · ((intro w hSw; unfold StB at hSw; go_simp) <;> (try with_reducible rfl))
         (try go_simp))
      | (refine TakeSeq.skip rfl (by rfl) ?_; (try go_simp)))
    refine TakeSeq.nil ?_
    refine doneH (by kernel_rfl) ?_
    go_wp2
    go_ret2
    exact ⟨rfl, HB.out.trans ((HB2.out.trans (hbz.mono HB2.out.size)).mono HB.out.size)⟩
end Go.Proofs.YtadjnfpomjopkaaGreat

namespace Go.Proofs.YtadjnfpomjopkaaGreat
open Go.RowKit

theorem condV_two (o : Option Bool) : ∃ (b : Bool) (z : Int), condV o = .tuple #[.bool b, .int .i64 z] ∧ (o == some true) = b := by
  cases o with
  | none => exact ⟨false, 17, rfl, rfl⟩
  | some b => exact ⟨b, 0, rfl, by cases b <;> rfl⟩
theorem fires_mile {M : Mdl} {s : Sta} {ev : Int} {n : Nat} {m : Ml} (h : M.miles[n]? = some m) : firesS M s (true, (n : Int)) ev = (inM m.stage M.stages.length && (decide (m.event = -1) || decide (m.event = ev)) && hasB s.opn m.stage && (condO m.ifs s == some true)) := by
  unfold firesS readyS condS
  rw [findS_mile h]
  dsimp only
  rw [Bool.true_or, Bool.and_true]
  cases hasB s.opn m.stage <;> rfl
theorem fires_guard {M : Mdl} {s : Sta} {ev : Int} {n : Nat} {g : Gd} (h : M.guards[n]? = some g) : firesS M s (false, (n : Int)) ev = (inM g.stage M.stages.length && (decide (g.event = -1) || decide (g.event = ev)) && !hasB s.opn g.stage && (decide (stgP M g.stage.toNat = -1) || (inM (stgP M g.stage.toNat) M.stages.length && hasB s.opn (stgP M g.stage.toNat))) && (condO g.ifs s == some true)) := by
  unfold firesS readyS condS
  rw [findS_guard h]
  dsimp only
  have e : abvS M s g.stage = (decide (stgP M g.stage.toNat = -1) || (inM (stgP M g.stage.toNat) M.stages.length && hasB s.opn (stgP M g.stage.toNat))) := by
    unfold abvS
    by_cases p : stgP M g.stage.toNat < 0
    · rw [hasB_neg _ p, Bool.and_false, Bool.and_false]
    · have : decide (stgP M g.stage.toNat < (M.stages.length : Int)) = inM (stgP M g.stage.toNat) M.stages.length := by
        rw [Bool.eq_iff_iff, decide_eq_true_eq, inM_iff]; omega
      rw [this]
  rw [Bool.false_or, e]
  cases hasB s.opn g.stage <;> rfl
theorem fires_no {M : Mdl} {s : Sta} {ev : Int} {b : Bool} {n : Int} (h : inM n (if b = true then M.miles.length else M.guards.length) = false) : firesS M s (b, n) ev = false := by
  have : findS M (b, n) = none := findS_no (fun q => by rw [inM_iff.2 q] at h; cases h)
  unfold firesS readyS; rw [this]; rfl

set_option maxRecDepth 100000 in
set_option maxHeartbeats 4000000 in
theorem rfiresQ {w : World} {q : Mem} {M : Mdl} {r : Stm} {s : Sta} (hm : MdQ w q M) (hs : StQ w r s) (hk : SOK s) (x : Bool × Int) (ev : Int) : Calls Tryz.prog 60 #[.agg (mdC q M), .agg (stC r s), .agg #[.bool x.1, .int .i64 x.2], .int .i64 ev] w (Ret w (.bool (firesS M s x ev))) := by
  obtain ⟨xb, xn⟩ := x
  dsimp only
  obtain ⟨W1, W0, h1, h2, HB, HM, HS, HF⟩ := boxMS hm hs
  have HOK := Lib.hid hk
  have HB0 : Hid (Below W0.heap.size W0 W0) := Below.refl _ _
  obtain ⟨W3, h3, hb3, x3⟩ := box1 W0 #[.bool xb, .int .i64 xn] 118
  have HB3 := Lib.hid hb3
  have HX3 := Lib.hid x3
  have hmm := HM.out.miles.max
  have hmg := HM.out.guards.max
  have HHA := Lib.hid (fun (i : Int) V => rhasN hk.opn i V)
  have HIS := Lib.hid (fun (i : Int) V => rin18 i M.stages.length V)
  have HHO : Hid (∀ V ai ki (l : List Ins), Below W0.heap.size W0 V → RowE instE 7 V (.slice ai l.length ki) l → Calls Tryz.prog 20 #[.slice ai l.length ki, .agg (stC r s)] V (Ret V (condV (condO l s)))) := fun V ai ki l hV hl => rholdsQ (HS.out.below hV) HOK.out hl
  unfold stC at HHO
  clear hb3 x3
  unfold MdB StB at HF
  unfold mdC at h1
  unfold stC at h2
  unfold mdC stC
  clear hm hs hk
  obtain ⟨⟨c0, c1, c2, c3, c4, c5, c6, c7, c8, c9⟩, d0, d1, d2, d3, d4⟩ := HF.out _ HB3.out
  have y0 := HX3.out.cell (i := 0) rfl
  have y1 := HX3.out.cell (i := 1) rfl
  obtain ⟨R, hR⟩ : ∃ R, firesS M s (xb, xn) ev = R := ⟨_, rfl⟩
  rw [hR]
  cases xb
  case true =>
    have HI1 := Lib.hid (fun V => rin18 xn M.miles.length V)
    go_enter Tryz.func60, Tryz.ntmps60
    go_wp2_with fail
    cases i1 : inM xn M.miles.length
    case false =>
      have HR : Hid (R = false) := by unfold Hid; rw [← hR]; exact fires_no (b := true) i1
      rw [i1] at HI1
      clear i1 hR
      go_wp2_with fail
      refine (HI1.out _).mono ?_
      rintro e w9 ⟨rfl, rfl⟩
      go_wp2
      go_ret
      exact ⟨ret_bool (HR.out.symm), HB.out.trans (HB3.out.mono HB.out.size)⟩
    rw [i1] at HI1
    obtain ⟨n, rfl, hnl⟩ := inM_nat i1
    go_wp2_with fail
    refine (HI1.out _).mono ?_
    rintro e w9 ⟨rfl, rfl⟩
    obtain ⟨m, b, off, ai, ki, hmx, ha, hin, ⟨a0, a1, a2, a3, a4⟩, W4, h4, hb4, x4⟩ := mileBox (HM.out.below HB3.out).miles hnl
    have HR0 : Hid (R = (inM m.stage M.stages.length && (decide (m.event = -1) || decide (m.event = ev)) && hasB s.opn m.stage && (condO m.ifs s == some true))) := by unfold Hid; rw [← hR]; exact fires_mile hmx
    have HB4 := Lib.hid (HB3.out.trans (hb4.mono HB3.out.size))
    have hn0 : (0 : Int) ≤ (n : Int) := Int.natCast_nonneg _
    have hn1 := ltI hnl
    have HHX := Lib.hid (HHO.out W4 ai ki m.ifs HB4.out (hin.below instE_keep hb4))
    have HX4 := Lib.hid x4
    obtain ⟨okb, z, hov, hok⟩ := condV_two (condO m.ifs s)
    rw [hov] at HHX
    rw [hok] at HR0
    rw [ha] at c7
    clear i1 hmx hin hb4 x4 hov hok hR hnl
    go_upto_region 5 with fail
    clear c0 c1 c2 c3 c4 c5 c6 c7 c8 c9 d0 d1 d2 d3 d4 y0 y1 a0 a1 a2 a3 a4
    obtain ⟨⟨c0, c1, c2, c3, c4, c5, c6, c7, c8, c9⟩, d0, d1, d2, d3, d4⟩ := HF.out _ HB4.out
    have g3 := HX4.out.cell (i := 3) rfl
    go_wp2_with fail
    refine HHX.out.mono ?_
    rintro e5 W5 ⟨rfl, hb5⟩
    have HB5 := Lib.hid (HB4.out.trans (hb5.mono HB4.out.size))
    have HX5 := Lib.hid (HX4.out.keep hb5)
    clear c0 c1 c2 c3 c4 c5 c6 c7 c8 c9 d0 d1 d2 d3 d4 g3 hb5
    obtain ⟨⟨c0, c1, c2, c3, c4, c5, c6, c7, c8, c9⟩, d0, d1, d2, d3, d4⟩ := HF.out _ HB5.out
    have g1 := HX5.out.cell (i := 1) rfl
    have g2 := HX5.out.cell (i := 2) rfl
    have HI2 := Lib.hid (HIS.out m.stage W5)
    cases i2 : inM m.stage M.stages.length
    case false =>
      rw [i2] at HI2 HR0
      rw [Bool.false_and, Bool.false_and, Bool.false_and] at HR0
      clear i2
      go_wp2_with fail
      refine (HI2.out).mono ?_
      rintro e w9 ⟨rfl, rfl⟩
      go_wp2
      go_ret
      exact ⟨ret_bool (HR0.out.symm), HB.out.trans (HB5.out.mono HB.out.size)⟩
    rw [i2] at HI2 HR0
    rw [Bool.true_and] at HR0
    clear i2
    by_cases e1 : m.event = -1
    case pos =>
      have be : (m.event == -1) = true := by simp [e1]
      rw [decide_eq_true e1, Bool.true_or, Bool.true_and] at HR0
      clear e1
      have HH2 := Lib.hid (HHA.out m.stage W5)
      cases hb : hasB s.opn m.stage
      · rw [hb] at HH2 HR0
        rw [Bool.false_and] at HR0
        clear hb
        go_wp2_with fail
        refine (HI2.out).mono ?_
        rintro e w9 ⟨rfl, rfl⟩
        go_wp2_with fail
        refine (HH2.out).mono ?_
        rintro e w9 ⟨rfl, rfl⟩
        go_wp2
        go_ret
        exact ⟨ret_bool (HR0.out.symm), HB.out.trans (HB5.out.mono HB.out.size)⟩
      · rw [hb] at HH2 HR0
        rw [Bool.true_and] at HR0
        clear hb
        go_wp2_with fail
        refine (HI2.out).mono ?_
        rintro e w9 ⟨rfl, rfl⟩
        go_wp2_with fail
        refine (HH2.out).mono ?_
        rintro e w9 ⟨rfl, rfl⟩
        go_wp2
        go_ret
        exact ⟨ret_bool (HR0.out.symm), HB.out.trans (HB5.out.mono HB.out.size)⟩
    by_cases e2 : m.event = ev
    case pos =>
      have be : (m.event == -1) = false := by simp [e1]
      have be2 : (m.event == ev) = true := by simp [e2]
      rw [decide_eq_true e2, Bool.or_true, Bool.true_and] at HR0
      clear e1 e2
      have HH2 := Lib.hid (HHA.out m.stage W5)
      cases hb : hasB s.opn m.stage
      · rw [hb] at HH2 HR0
        rw [Bool.false_and] at HR0
        clear hb
        go_wp2_with fail
        refine (HI2.out).mono ?_
        rintro e w9 ⟨rfl, rfl⟩
        go_wp2_with fail
        refine (HH2.out).mono ?_
        rintro e w9 ⟨rfl, rfl⟩
        go_wp2
        go_ret
        exact ⟨ret_bool (HR0.out.symm), HB.out.trans (HB5.out.mono HB.out.size)⟩
      · rw [hb] at HH2 HR0
        rw [Bool.true_and] at HR0
        clear hb
        go_wp2_with fail
        refine (HI2.out).mono ?_
        rintro e w9 ⟨rfl, rfl⟩
        go_wp2_with fail
        refine (HH2.out).mono ?_
        rintro e w9 ⟨rfl, rfl⟩
        go_wp2
        go_ret
        exact ⟨ret_bool (HR0.out.symm), HB.out.trans (HB5.out.mono HB.out.size)⟩
    have be : (m.event == -1) = false := by simp [e1]
    have be2 : (m.event == ev) = false := by simp [e2]
    rw [decide_eq_false e1, decide_eq_false e2, Bool.or_false, Bool.false_and, Bool.false_and] at HR0
    clear e1 e2
    go_wp2_with fail
    refine (HI2.out).mono ?_
    rintro e w9 ⟨rfl, rfl⟩
    go_wp2
    go_ret
    exact ⟨ret_bool (HR0.out.symm), HB.out.trans (HB5.out.mono HB.out.size)⟩
  case false =>
    have HI1 := Lib.hid (fun V => rin18 xn M.guards.length V)
    go_enter Tryz.func60, Tryz.ntmps60
    go_upto_region 7 with fail
    clear c0 c1 c2 c3 c4 c5 c6 c7 c8 c9 d0 d1 d2 d3 d4 y0 y1
    cases i1 : inM xn M.guards.length
    case false =>
      have HR : Hid (R = false) := by unfold Hid; rw [← hR]; exact fires_no (b := false) i1
      rw [i1] at HI1
      have HSF : Hid (∀ V, Below W3.heap.size W3 V → (MdB V w.heap.size q M ∧ StB V W1.heap.size r s) ∧ V.cell? ⟨W0.heap.size, 1, none⟩ = some (.int .i64 xn)) := fun V hV => ⟨by unfold MdB StB; exact HF.out V (HB3.out.trans (hV.mono HB3.out.size)), (HX3.out.keep hV).cell rfl⟩
      clear i1 hR
      have hbz : Below W3.heap.size W3 W3.drew := (Below.refl _ _).drew
      refine startH (S := fun V => (MdB V w.heap.size q M ∧ StB V W1.heap.size r s) ∧ V.cell? ⟨W0.heap.size, 1, none⟩ = some (.int .i64 xn)) (by kernel_rfl) (HSF.out _ hbz) (fun hHeld => ?_)
      refine takesH [0, 1, 2, 3, 4] (by kernel_rfl) (fun _ _ d _ _ h => by cases d <;> exact h) (by kernel_rfl) (by kernel_rfl) (by assumption) ?_
      repeat (first
        | (refine TakeSeq.cons (v := ?_) rfl (by rfl) ?_ ?_
           rotate_left
           · ((intro w hSw; unfold MdB StB at hSw; go_simp) <;> (try with_reducible rfl))
           (try go_simp))
        | (refine TakeSeq.skip rfl (by rfl) ?_; (try go_simp)))
      refine TakeSeq.nil ?_
      refine callH 5 (by kernel_rfl) (by kernel_rfl) rfl (by rfl) ?_
      intro K hK
      go_simp
      go_at_call 69
      with_reducible refine (HI1.out _).mono ?_
      rintro e5 w5 ⟨rfl, rfl⟩
      refine hK.out _ _ (HSF.out _ hbz) (fun hHeld => ?_)
      clear hK K
      (try go_simp)
      refine takesH [6, 7, 8, 9, 10, 11, 12, 13, 14, 15, 16, 17, 18, 19, 20] (by kernel_rfl) (fun _ _ d _ _ h => by cases d <;> exact h) (by kernel_rfl) (by kernel_rfl) (by assumption) ?_
      repeat (first
        | (refine TakeSeq.cons (v := ?_) rfl (by rfl) ?_ ?_
           rotate_left
           · ((intro w hSw; unfold MdB StB at hSw; go_simp) <;> (try with_reducible rfl))
           (try go_simp))
        | (refine TakeSeq.skip rfl (by rfl) ?_; (try go_simp)))
      refine TakeSeq.nil ?_
      refine doneH (by kernel_rfl) ?_
      go_wp2
      go_ret
      exact ⟨ret_bool HR.out.symm, HB.out.trans ((HB3.out.trans (hbz.mono HB3.out.size)).mono HB.out.size)⟩
    rw [i1] at HI1
    obtain ⟨n, rfl, hnl⟩ := inM_nat i1
    obtain ⟨gd, hgx⟩ : ∃ g, M.guards[n]? = some g := ⟨_, List.getElem?_eq_getElem hnl⟩
    obtain ⟨b, off, cap, ai, ki, hv, hbl, hin, a0, a1, a2⟩ := guardRow (HM.out.below HB3.out).guards hgx
    simp only [Value.slice.injEq] at hv
    have ha := hv.1
    have HR0 : Hid (R = (inM gd.stage M.stages.length && (decide (gd.event = -1) || decide (gd.event = ev)) && !hasB s.opn gd.stage && (decide (stgP M gd.stage.toNat = -1) || (inM (stgP M gd.stage.toNat) M.stages.length && hasB s.opn (stgP M gd.stage.toNat))) && (condO gd.ifs s == some true))) := by unfold Hid; rw [← hR]; exact fires_guard hgx
    have hn0 : (0 : Int) ≤ (n : Int) := Int.natCast_nonneg _
    have hn1 := ltI hnl
    have HI2 := Lib.hid (HIS.out gd.stage)
    have HSF : Hid (∀ V, Below W3.heap.size W3 V → (MdB V w.heap.size q M ∧ StB V W1.heap.size r s) ∧ V.cell? ⟨W0.heap.size, 1, none⟩ = some (.int .i64 (n : Int)) ∧ V.cell? ⟨b, off + n * 3, none⟩ = some (.int .i64 gd.stage)) := fun V hV => ⟨by unfold MdB StB; exact HF.out V (HB3.out.trans (hV.mono HB3.out.size)), (HX3.out.keep hV).cell rfl, (hV.cell (p := ⟨b, off + n * 3, none⟩) hbl).trans a0⟩
    have HIN := Lib.hid hin
    have HA0 := Lib.hid (And.intro a0 (And.intro a1 a2))
    have HBL := Lib.hid hbl
    clear i1 hgx hv hbl hin a0 a1 a2 hR hnl
    cases i2 : inM gd.stage M.stages.length
    case false =>
      rw [i2] at HI2 HR0
      rw [Bool.false_and, Bool.false_and, Bool.false_and, Bool.false_and] at HR0
      clear i2
      have hbz : Below W3.heap.size W3 W3.drew := (Below.refl _ _).drew
      refine startH (S := fun V => (MdB V w.heap.size q M ∧ StB V W1.heap.size r s) ∧ V.cell? ⟨W0.heap.size, 1, none⟩ = some (.int .i64 (n : Int)) ∧ V.cell? ⟨b, off + n * 3, none⟩ = some (.int .i64 gd.stage)) (by kernel_rfl) (HSF.out _ hbz) (fun hHeld => ?_)
      refine takesH [0, 1, 2, 3, 4] (by kernel_rfl) (fun _ _ d _ _ h => by cases d <;> exact h) (by kernel_rfl) (by kernel_rfl) (by assumption) ?_
      repeat (first
        | (refine TakeSeq.cons (v := ?_) rfl (by rfl) ?_ ?_
           rotate_left
           · ((intro w hSw; unfold MdB StB at hSw; go_simp) <;> (try with_reducible rfl))
           (try go_simp))
        | (refine TakeSeq.skip rfl (by rfl) ?_; (try go_simp)))
      refine TakeSeq.nil ?_
      refine callH 5 (by kernel_rfl) (by kernel_rfl) rfl (by rfl) ?_
      intro K hK
      go_simp
      go_at_call 69
      with_reducible refine (HI1.out _).mono ?_
      rintro e5 w5 ⟨rfl, rfl⟩
      refine hK.out _ _ (HSF.out _ hbz) (fun hHeld => ?_)
      clear hK K
      (try go_simp)
      refine takesH [6, 7, 8, 9, 10, 11, 12, 13, 14, 15, 16, 17] (by kernel_rfl) (fun _ _ d _ _ h => by cases d <;> exact h) (by kernel_rfl) (by kernel_rfl) (by assumption) ?_
      repeat (first
        | (refine TakeSeq.cons (v := ?_) rfl (by rfl) ?_ ?_
           rotate_left
           · ((intro w hSw; unfold MdB StB at hSw; go_simp) <;> (try with_reducible rfl))
           (try go_simp))
        | (refine TakeSeq.skip rfl (by rfl) ?_; (try go_simp)))
      refine TakeSeq.nil ?_
      refine callH 18 (by kernel_rfl) (by kernel_rfl) rfl (by rfl) ?_
      intro K hK
      go_simp
      go_at_call 69
      with_reducible refine (HI2.out _).mono ?_
      rintro e5 w5 ⟨rfl, rfl⟩
      refine hK.out _ _ (HSF.out _ hbz) (fun hHeld => ?_)
      clear hK K
      (try go_simp)
      refine takesH [19, 20] (by kernel_rfl) (fun _ _ d _ _ h => by cases d <;> exact h) (by kernel_rfl) (by kernel_rfl) (by assumption) ?_
      repeat (first
        | (refine TakeSeq.cons (v := ?_) rfl (by rfl) ?_ ?_
           rotate_left
           · ((intro w hSw; unfold MdB StB at hSw; go_simp) <;> (try with_reducible rfl))
           (try go_simp))
        | (refine TakeSeq.skip rfl (by rfl) ?_; (try go_simp)))
      refine TakeSeq.nil ?_
      refine doneH (by kernel_rfl) ?_
      go_wp2
      go_ret
      exact ⟨ret_bool HR0.out.symm, HB.out.trans ((HB3.out.trans (hbz.mono HB3.out.size)).mono HB.out.size)⟩
    obtain ⟨j, hj, hjl⟩ := inM_nat i2
    rw [i2] at HI2 HR0
    rw [Bool.true_and, hj, Int.toNat_natCast] at HR0
    rw [hj] at HI2 HA0 HSF
    clear i2
    have hbz : Below W3.heap.size W3 W3.drew := (Below.refl _ _).drew
    refine startH (S := fun V => (MdB V w.heap.size q M ∧ StB V W1.heap.size r s) ∧ V.cell? ⟨W0.heap.size, 1, none⟩ = some (.int .i64 (n : Int)) ∧ V.cell? ⟨b, off + n * 3, none⟩ = some (.int .i64 (j : Int))) (by kernel_rfl) (HSF.out _ hbz) (fun hHeld => ?_)
    refine takesH [0, 1, 2, 3, 4] (by kernel_rfl) (fun _ _ d _ _ h => by cases d <;> exact h) (by kernel_rfl) (by kernel_rfl) (by assumption) ?_
    repeat (first
      | (refine TakeSeq.cons (v := ?_) rfl (by rfl) ?_ ?_
         rotate_left
         · ((intro w hSw; unfold MdB StB at hSw; go_simp) <;> (try with_reducible rfl))
         (try go_simp))
      | (refine TakeSeq.skip rfl (by rfl) ?_; (try go_simp)))
    refine TakeSeq.nil ?_
    refine callH 5 (by kernel_rfl) (by kernel_rfl) rfl (by rfl) ?_
    intro K hK
    go_simp
    go_at_call 69
    with_reducible refine (HI1.out _).mono ?_
    rintro e5 w5 ⟨rfl, rfl⟩
    refine hK.out _ _ (HSF.out _ hbz) (fun hHeld => ?_)
    clear hK K
    (try go_simp)
    refine takesH [6, 7, 8, 9, 10, 11, 12, 13, 14, 15, 16, 17] (by kernel_rfl) (fun _ _ d _ _ h => by cases d <;> exact h) (by kernel_rfl) (by kernel_rfl) (by assumption) ?_
    repeat (first
      | (refine TakeSeq.cons (v := ?_) rfl (by rfl) ?_ ?_
         rotate_left
         · ((intro w hSw; unfold MdB StB at hSw; go_simp) <;> (try with_reducible rfl))
         (try go_simp))
      | (refine TakeSeq.skip rfl (by rfl) ?_; (try go_simp)))
    refine TakeSeq.nil ?_
    refine callH 18 (by kernel_rfl) (by kernel_rfl) rfl (by rfl) ?_
    intro K hK
    go_simp
    go_at_call 69
    with_reducible refine (HI2.out _).mono ?_
    rintro e5 w5 ⟨rfl, rfl⟩
    refine hK.out _ _ (HSF.out _ hbz) (fun hHeld => ?_)
    clear hK K
    (try go_simp)
    refine takesH [19, 20] (by kernel_rfl) (fun _ _ d _ _ h => by cases d <;> exact h) (by kernel_rfl) (by kernel_rfl) (by assumption) ?_
    repeat (first
      | (refine TakeSeq.cons (v := ?_) rfl (by rfl) ?_ ?_
         rotate_left
         · ((intro w hSw; unfold MdB StB at hSw; go_simp) <;> (try with_reducible rfl))
         (try go_simp))
      | (refine TakeSeq.skip rfl (by rfl) ?_; (try go_simp)))
    refine TakeSeq.nil ?_
    refine doneH (by kernel_rfl) ?_
    generalize W3.drew = D at hbz hHeld ⊢
    have HBD := Lib.hid (HB3.out.trans (hbz.mono HB3.out.size))
    obtain ⟨y, hy⟩ : ∃ y, M.stages[j]? = some y := ⟨_, List.getElem?_eq_getElem hjl⟩
    obtain ⟨W7, h7, hb7, x7⟩ := box1 D #[.int .i64 (j : Int), .int .i64 gd.event, .slice ai gd.ifs.length ki] 52
    have HB7 := Lib.hid (HBD.out.trans (hb7.mono HBD.out.size))
    obtain ⟨b5, o5, c5', hv5, hb5, s0, s1⟩ := stageRow (HM.out.below HB7.out).stages hy
    simp only [Value.slice.injEq] at hv5
    have ha5 := hv5.1
    have hj0 : (0 : Int) ≤ (j : Int) := Int.natCast_nonneg _
    have hj1 := ltI hjl
    rw [stgP_of hy] at HR0
    have HX7 := Lib.hid x7
    have a0 := (hbz.cell (p := ⟨b, off + n * 3, none⟩) HBL.out).trans HA0.out.1
    have a1 := (hbz.cell (p := ⟨b, off + n * 3 + 1, none⟩) HBL.out).trans HA0.out.2.1
    have a2 := (hbz.cell (p := ⟨b, off + n * 3 + 2, none⟩) HBL.out).trans HA0.out.2.2
    have HHX := Lib.hid (HHO.out W7 ai ki gd.ifs HB7.out ((HIN.out.below instE_keep hbz).below instE_keep hb7))
    obtain ⟨okb, z, hov, hok⟩ := condV_two (condO gd.ifs s)
    rw [hov] at HHX
    rw [hok] at HR0
    have hy3 := (HX3.out.keep hbz).cell (i := 1) rfl
    obtain ⟨⟨c0, c1, c2, c3, c4, c5, c6, c7, c8, c9⟩, d0, d1, d2, d3, d4⟩ := HF.out _ HBD.out
    have g0 := x7.cell (i := 0) rfl
    have g2 := x7.cell (i := 2) rfl
    obtain ⟨⟨-, -, -, -, f4, -, -, -, -, -⟩, e0, e1, e2, e3, e4⟩ := HF.out _ HB7.out
    clear hHeld hj hy hv5 hb5 hb7 x7 hov hok hjl
    go_upto_region 11 with fail
    clear a0 a1 a2 s0 hy3
    go_wp2_with fail
    refine HHX.out.mono ?_
    rintro e8 W8 ⟨rfl, hb8⟩
    have HB8 := Lib.hid (HB7.out.trans (hb8.mono HB7.out.size))
    have HX8 := Lib.hid (HX7.out.keep hb8)
    clear c0 c1 c2 c3 c4 c5 c6 c7 c8 c9 d0 d1 d2 d3 d4 f4 e0 e1 e2 e3 e4 g0 g2 hb8 s1
    obtain ⟨⟨c0, c1, c2, c3, c4, c5, c6, c7, c8, c9⟩, d0, d1, d2, d3, d4⟩ := HF.out _ HB8.out
    have g0 := HX8.out.cell (i := 0) rfl
    have g1 := HX8.out.cell (i := 1) rfl
    by_cases e1 : gd.event = -1
    case pos =>
      have be : (gd.event == -1) = true := by simp [e1]
      rw [decide_eq_true e1, Bool.true_or, Bool.true_and] at HR0
      clear e1
      have HH2 := Lib.hid (HHA.out (j : Int) W8)
      cases hb : hasB s.opn (j : Int)
      case true =>
        rw [hb] at HH2 HR0
        rw [Bool.not_true, Bool.false_and, Bool.false_and] at HR0
        clear hb
        go_wp2_with fail
        refine (HH2.out).mono ?_
        rintro e w9 ⟨rfl, rfl⟩
        go_wp2
        go_ret
        exact ⟨ret_bool (HR0.out.symm), HB.out.trans (HB8.out.mono HB.out.size)⟩
      rw [hb] at HH2 HR0
      rw [Bool.not_false, Bool.true_and] at HR0
      clear hb
      by_cases p1 : y.2 = -1
      case pos =>
        have bp : (y.2 == -1) = true := by simp [p1]
        rw [decide_eq_true p1, Bool.true_or, Bool.true_and] at HR0
        clear p1
        go_wp2_with fail
        refine (HH2.out).mono ?_
        rintro e w9 ⟨rfl, rfl⟩
        go_wp2
        go_ret
        exact ⟨ret_bool (HR0.out.symm), HB.out.trans (HB8.out.mono HB.out.size)⟩
      have bp : (y.2 == -1) = false := by simp [p1]
      rw [decide_eq_false p1, Bool.false_or] at HR0
      clear p1
      have HI3 := Lib.hid (HIS.out y.2 W8)
      cases i3 : inM y.2 M.stages.length
      case false =>
        rw [i3] at HI3 HR0
        rw [Bool.false_and, Bool.false_and] at HR0
        clear i3
        go_wp2_with fail
        refine (HH2.out).mono ?_
        rintro e w9 ⟨rfl, rfl⟩
        go_wp2_with fail
        refine (HI3.out).mono ?_
        rintro e w9 ⟨rfl, rfl⟩
        go_wp2
        go_ret
        exact ⟨ret_bool (HR0.out.symm), HB.out.trans (HB8.out.mono HB.out.size)⟩
      rw [i3] at HI3 HR0
      rw [Bool.true_and] at HR0
      clear i3
      have HH3 := Lib.hid (HHA.out y.2 W8)
      cases hp : hasB s.opn y.2
      · rw [hp] at HH3 HR0
        rw [Bool.false_and] at HR0
        clear hp
        go_wp2_with fail
        refine (HH2.out).mono ?_
        rintro e w9 ⟨rfl, rfl⟩
        go_wp2_with fail
        refine (HI3.out).mono ?_
        rintro e w9 ⟨rfl, rfl⟩
        go_wp2_with fail
        refine (HH3.out).mono ?_
        rintro e w9 ⟨rfl, rfl⟩
        go_wp2
        go_ret
        exact ⟨ret_bool (HR0.out.symm), HB.out.trans (HB8.out.mono HB.out.size)⟩
      · rw [hp] at HH3 HR0
        rw [Bool.true_and] at HR0
        clear hp
        go_wp2_with fail
        refine (HH2.out).mono ?_
        rintro e w9 ⟨rfl, rfl⟩
        go_wp2_with fail
        refine (HI3.out).mono ?_
        rintro e w9 ⟨rfl, rfl⟩
        go_wp2_with fail
        refine (HH3.out).mono ?_
        rintro e w9 ⟨rfl, rfl⟩
        go_wp2
        go_ret
        exact ⟨ret_bool (HR0.out.symm), HB.out.trans (HB8.out.mono HB.out.size)⟩
    by_cases e2 : gd.event = ev
    case pos =>
      have be : (gd.event == -1) = false := by simp [e1]
      have be2 : (gd.event == ev) = true := by simp [e2]
      rw [decide_eq_true e2, Bool.or_true, Bool.true_and] at HR0
      clear e1 e2
      have HH2 := Lib.hid (HHA.out (j : Int) W8)
      cases hb : hasB s.opn (j : Int)
      case true =>
        rw [hb] at HH2 HR0
        rw [Bool.not_true, Bool.false_and, Bool.false_and] at HR0
        clear hb
        go_wp2_with fail
        refine (HH2.out).mono ?_
        rintro e w9 ⟨rfl, rfl⟩
        go_wp2
        go_ret
        exact ⟨ret_bool (HR0.out.symm), HB.out.trans (HB8.out.mono HB.out.size)⟩
      rw [hb] at HH2 HR0
      rw [Bool.not_false, Bool.true_and] at HR0
      clear hb
      by_cases p1 : y.2 = -1
      case pos =>
        have bp : (y.2 == -1) = true := by simp [p1]
        rw [decide_eq_true p1, Bool.true_or, Bool.true_and] at HR0
        clear p1
        go_wp2_with fail
        refine (HH2.out).mono ?_
        rintro e w9 ⟨rfl, rfl⟩
        go_wp2
        go_ret
        exact ⟨ret_bool (HR0.out.symm), HB.out.trans (HB8.out.mono HB.out.size)⟩
      have bp : (y.2 == -1) = false := by simp [p1]
      rw [decide_eq_false p1, Bool.false_or] at HR0
      clear p1
      have HI3 := Lib.hid (HIS.out y.2 W8)
      cases i3 : inM y.2 M.stages.length
      case false =>
        rw [i3] at HI3 HR0
        rw [Bool.false_and, Bool.false_and] at HR0
        clear i3
        go_wp2_with fail
        refine (HH2.out).mono ?_
        rintro e w9 ⟨rfl, rfl⟩
        go_wp2_with fail
        refine (HI3.out).mono ?_
        rintro e w9 ⟨rfl, rfl⟩
        go_wp2
        go_ret
        exact ⟨ret_bool (HR0.out.symm), HB.out.trans (HB8.out.mono HB.out.size)⟩
      rw [i3] at HI3 HR0
      rw [Bool.true_and] at HR0
      clear i3
      have HH3 := Lib.hid (HHA.out y.2 W8)
      cases hp : hasB s.opn y.2
      · rw [hp] at HH3 HR0
        rw [Bool.false_and] at HR0
        clear hp
        go_wp2_with fail
        refine (HH2.out).mono ?_
        rintro e w9 ⟨rfl, rfl⟩
        go_wp2_with fail
        refine (HI3.out).mono ?_
        rintro e w9 ⟨rfl, rfl⟩
        go_wp2_with fail
        refine (HH3.out).mono ?_
        rintro e w9 ⟨rfl, rfl⟩
        go_wp2
        go_ret
        exact ⟨ret_bool (HR0.out.symm), HB.out.trans (HB8.out.mono HB.out.size)⟩
      · rw [hp] at HH3 HR0
        rw [Bool.true_and] at HR0
        clear hp
        go_wp2_with fail
        refine (HH2.out).mono ?_
        rintro e w9 ⟨rfl, rfl⟩
        go_wp2_with fail
        refine (HI3.out).mono ?_
        rintro e w9 ⟨rfl, rfl⟩
        go_wp2_with fail
        refine (HH3.out).mono ?_
        rintro e w9 ⟨rfl, rfl⟩
        go_wp2
        go_ret
        exact ⟨ret_bool (HR0.out.symm), HB.out.trans (HB8.out.mono HB.out.size)⟩
    have be : (gd.event == -1) = false := by simp [e1]
    have be2 : (gd.event == ev) = false := by simp [e2]
    rw [decide_eq_false e1, decide_eq_false e2, Bool.or_false, Bool.false_and, Bool.false_and, Bool.false_and] at HR0
    clear e1 e2
    go_wp2
    go_ret
    exact ⟨ret_bool (HR0.out.symm), HB.out.trans (HB8.out.mono HB.out.size)⟩
end Go.Proofs.YtadjnfpomjopkaaGreat
