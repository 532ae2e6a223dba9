/- step.Do (printed by gen_sdo.py). The reference: in, Up, Is, within. The reference: Parents, Check of a state. -/
import Derived.Test.YtadjnfpomjopkaaGreatSm22
import Derived.Test.YtadjnfpomjopkaaGreatSm19

namespace Go.Proofs.YtadjnfpomjopkaaGreat
open Go.RowKit
/-- a model of which moves may be asked -/
structure GoodD (M : Mdl) : Prop where
  good : GoodM M
  attrs : M.attrs.length ≤ 1000000
  times : ∀ x ∈ M.events, x.times ≤ 9223372036854775807
theorem may_take {M : Mdl} {s : Sta} {v : Mv} (hg : GoodD M) (h : mayS M s v = 0) (hi : idlM v = false) :
    ∃ k : Nat, v.event = (k : Int) ∧ k < M.events.length ∧ (s.vals.length ≤ 1000000 ∧ s.did.length = M.events.length ∧ s.cnt.length = M.events.length ∧ M.events.length ≤ 1000000) ∧ v.vals.length = (evG M k).sets.length ∧ (0 < (evG M k).times → N64 (s.cnt.getD k 0 + 1)) := by
  unfold mayS at h
  cases hc : chkS M s
  · rw [if_pos hc] at h; cases h
  rw [if_neg (by rw [hc]; simp), hi, if_neg (by simp)] at h
  cases he : enabS M s v.event v.user
  · rw [if_pos he] at h; cases h
  rw [if_neg (by rw [he]; simp)] at h
  have hl : v.vals.length = (evG M v.event.toNat).sets.length := by
    by_cases e : v.vals.length = (evG M v.event.toNat).sets.length
    · exact e
    · rw [if_pos e] at h; cases h
  have hin := inM_iff.1 (enabS_in he)
  obtain ⟨k, hk⟩ : ∃ k : Nat, v.event = (k : Int) := ⟨v.event.toNat, by omega⟩
  rw [hk] at hl hin he
  rw [Int.toNat_natCast] at hl
  have hkl : k < M.events.length := by omega
  unfold chkS at hc
  simp only [Bool.and_eq_true] at hc
  obtain ⟨⟨hcl, -⟩, hce⟩ := hc
  unfold chkL at hcl
  simp only [Bool.and_eq_true, decide_eq_true_eq] at hcl
  have hat := hg.attrs
  have hev := hg.good.2.2.1
  refine ⟨k, hk, hkl, ⟨by omega, by omega, by omega, hev⟩, hl, fun ht => ?_⟩
  have h1 := List.all_eq_true.1 hce k (List.mem_range.2 hkl)
  unfold chkE at h1
  simp only [Bool.and_eq_true, decide_eq_true_eq] at h1
  unfold enabS freeS freeV at he
  simp only [Bool.and_eq_true, Bool.or_eq_true, decide_eq_true_eq] at he
  have h2 := he.1.2.2
  rw [Int.toNat_natCast] at h2
  have h3 : atZ s.cnt (k : Int) = s.cnt.getD k 0 := by unfold atZ; rw [if_pos (inM_iff.2 ⟨by omega, by omega⟩), Int.toNat_natCast]
  rw [h3] at h2
  have h4 : (evG M k).times ≤ 9223372036854775807 := by
    have hx := List.getElem?_eq_getElem hkl
    rw [evG_of hx]
    exact hg.times _ (List.getElem_mem hkl)
  unfold N64
  omega
theorem do_results {V : World} {b : Nat} {a0 a1 a2 a3 a4 : Value} {z : Int} {tmps : Array Value} (hb : Blk V b #[a0, a1, a2, a3, a4] 44) (h4 : tmps[6]? = some (.pointer (some ⟨b, 0, none⟩))) (h5 : tmps[7]? = some (.int .i64 z)) :
    (results Tryz.f57 tmps).run Tryz.prog V = .ok (.tuple #[.agg #[a0, a1, a2, a3, a4], .int .i64 z]) V := by
  have e0 := hb.cell (i := 0) rfl
  have e1 := hb.cell (i := 1) rfl
  have e2 := hb.cell (i := 2) rfl
  have e3 := hb.cell (i := 3) rfl
  have e4 := hb.cell (i := 4) rfl
  simp [results, Tryz.results57, go_sem, e0, e1, e2, e3, e4, h4, h5]
/-- what Do gives: the state's own rows lie in new memory, or are those that came in -/
def DoP (w : World) (M : Mdl) (r : Stm) (s : Sta) (v : Mv) : Ending → World → Prop := fun e w' => (∃ r', e = .returned (.tuple #[.agg (stC r' (doS M s v).1), .int .i64 (doS M s v).2]) ∧ StQ w' r' (doS M s v).1 ∧ ((r' = r ∧ (doS M s v).1 = s) ∨ StA w.heap.size r' (doS M s v).1)) ∧ Below w.heap.size w w'
theorem StQ.zero (w : World) : StQ w ⟨none, 0, none, 0, none, 0⟩ zeroS := ⟨RowE.nil _ _ _, RowE.nil _ _ _, RowE.nil _ _ _⟩
theorem StA.zero (B : Nat) : StA B ⟨none, 0, none, 0, none, 0⟩ zeroS := ⟨.inl rfl, .inl rfl, .inl rfl⟩
theorem stC_zero : stC ⟨none, 0, none, 0, none, 0⟩ zeroS = #[.slice none 0 0, .int .i64 0, .int .i64 0, .slice none 0 0, .slice none 0 0] := rfl

set_option maxRecDepth 100000 in
set_option maxHeartbeats 8000000 in
theorem doQ {w : World} {q : Mem} {M : Mdl} {r : Stm} {s : Sta} (hm : MdQ w q M) (hs : StQ w r s) {v : Mv} {ad : Option Addr} {cp : Nat} (hv : RowE intE 1 w (.slice ad v.vals.length cp) v.vals) (hg : GoodD M) (hbd : Bd s) :
    Calls Tryz.prog 57 #[.agg (mdC q M), .agg (stC r s), .agg #[.int .i64 v.event, .int .i64 v.user, .slice ad v.vals.length cp]] w (DoP w M r s v) := by
  obtain ⟨W1, W2, h1, h2, HB2, HM, HS, HF⟩ := boxMS hm hs
  obtain ⟨W3, h3, hb3, x3⟩ := box1 W2 #[.int .i64 v.event, .int .i64 v.user, .slice ad v.vals.length cp] 58
  obtain ⟨W4, h4, hb4, x4⟩ := box1 W3 #[.slice none 0 0, .int .i64 0, .int .i64 0, .slice none 0 0, .slice none 0 0] 44
  have hb24 := hb3.trans (hb4.mono hb3.size)
  have hs3 : W3.heap.size = W2.heap.size + 1 := by rw [← h3]; simp
  have HB24 := Lib.hid hb24
  have HX := Lib.hid (And.intro (x3.keep hb4) x4)
  have HSZ := Lib.hid hs3
  have HSQ := Lib.hid hs
  have HVQ : Hid (∀ V, Below W2.heap.size W2 V → RowE intE 1 V (.slice ad v.vals.length cp) v.vals) := fun V hV => hv.below intE_keep (HB2.out.trans (hV.mono HB2.out.size))
  have HMY : Hid (∀ V, Below W2.heap.size W2 V → Calls Tryz.prog 66 #[.agg (mdC q M), .agg (stC r s), .agg #[.int .i64 v.event, .int .i64 v.user, .slice ad v.vals.length cp]] V (Ret V (.int .i64 (mayS M s v)))) := fun V hV => mayQ (HM.out.below hV) (HS.out.below hV) v ad cp
  have HID : Hid (∀ V, Calls Tryz.prog 67 #[.agg #[.int .i64 v.event, .int .i64 v.user, .slice ad v.vals.length cp]] V (Ret V (.bool (idlM v)))) := fun V => idleQ v ad cp
  have HBE : Hid (∀ V, Below W2.heap.size W2 V → Below w.heap.size w V) := fun V hV => HB2.out.trans (hV.mono HB2.out.size)
  have HTK : Hid (mayS M s v = 0 → idlM v = false → ∀ V, Below W2.heap.size W2 V → Calls Tryz.prog 68 #[.agg (mdC q M), .agg (stC r s), .agg #[.int .i64 v.event, .int .i64 v.user, .slice ad v.vals.length cp]] V (TkP V M s v)) := by
    intro e1 e2 V hV
    obtain ⟨k, hk, hkl, hL, hvl, hcn⟩ := may_take hg e1 e2
    exact takeQ (HM.out.below hV) (HS.out.below hV) (HVQ.out V hV) hk hkl hL hvl hcn
  have HPA : Hid (∀ V r', Below W2.heap.size W2 V → StQ V r' (takeS M s v) → Calls Tryz.prog 64 #[.agg (mdC q M), .agg (stC r' (takeS M s v)), .int .i64 v.event] V (Ret V (.agg (stC r' (pasS M v.event (takeS M s v)))))) := fun V r' hV hS => passQ (HM.out.below hV) hS v.event hbd hg.good.1 hg.good.2.2.2
  have HBD : Hid (Bd (takeS M s v)) := hbd
  obtain ⟨mz, hmz⟩ : ∃ m, mayS M s v = m := ⟨_, rfl⟩
  obtain ⟨iz, hiz⟩ : ∃ m, idlM v = m := ⟨_, rfl⟩
  have HMZ := Lib.hid hmz
  have HIZ := Lib.hid hiz
  rw [hmz] at HMY
  rw [hiz] at HID
  unfold MdB StB at HF
  unfold mdC at h1 HMY HTK HPA
  unfold stC at h2 HMY HTK
  unfold mdC stC
  clear hm hs hv hg hbd hb3 hb4 x3 x4 hb24 hs3 hmz hiz
  obtain ⟨⟨c0, c1, c2, c3, c4, c5, c6, c7, c8, c9⟩, d0, d1, d2, d3, d4⟩ := HF.out _ HB24.out
  have y0 := HX.out.1.cell (i := 0) rfl
  have y1 := HX.out.1.cell (i := 1) rfl
  have y2 := HX.out.1.cell (i := 2) rfl
  go_enter Tryz.func57, Tryz.ntmps57
  go_wp2_with fail
  refine (HMY.out _ HB24.out).mono ?_
  rintro e5 W5 ⟨rfl, hb5⟩
  have HB5 := Lib.hid (HB24.out.trans (hb5.mono HB24.out.size))
  have HX5 := Lib.hid (And.intro (HX.out.1.keep hb5) (HX.out.2.keep hb5))
  clear hb5 c0 c1 c2 c3 c4 c5 c6 c7 c8 c9 d0 d1 d2 d3 d4 y0 y1 y2
  by_cases hm0 : mz = 0
  · subst hm0
    have y0 := HX5.out.1.cell (i := 0) rfl
    have y1 := HX5.out.1.cell (i := 1) rfl
    have y2 := HX5.out.1.cell (i := 2) rfl
    go_wp2_with fail
    refine (HID.out _).mono ?_
    rintro e6 W6 ⟨rfl, hb6⟩
    have HB6 := Lib.hid (HB5.out.trans (hb6.mono HB5.out.size))
    have HX6 := Lib.hid (And.intro (HX5.out.1.keep hb6) (HX5.out.2.keep hb6))
    clear hb6 y0 y1 y2
    cases iz
    · have HDO : Hid (doS M s v = (pasS M v.event (takeS M s v), 0)) := by unfold Hid doS; rw [if_neg (by rw [HMZ.out]; simp), if_neg (by rw [HIZ.out]; simp)]
      have HT6 := Lib.hid (HTK.out HMZ.out HIZ.out)
      have HSF : Hid (∀ V, Below W3.heap.size W6 V → (MdB V w.heap.size q M ∧ StB V W1.heap.size r s) ∧ V.cell? ⟨W2.heap.size, 0, none⟩ = some (.int .i64 v.event) ∧ V.cell? ⟨W2.heap.size, 1, none⟩ = some (.int .i64 v.user) ∧ V.cell? ⟨W2.heap.size, 2, none⟩ = some (.slice ad v.vals.length cp)) := fun V hV => ⟨by unfold MdB StB; exact HF.out V (HB6.out.trans (hV.mono (by have := HSZ.out; omega))), (HX6.out.1.low hV (by have := HSZ.out; omega)).cell rfl, (HX6.out.1.low hV (by have := HSZ.out; omega)).cell rfl, (HX6.out.1.low hV (by have := HSZ.out; omega)).cell rfl⟩
      have HLE : Hid (W3.heap.size ≤ W6.heap.size) := Nat.le_of_lt HX6.out.2.lt
      have HXR := HX6.out.2.drew
      have hbz : Below W6.heap.size W6 W6.drew := (Below.refl _ _).drew
      have HBZ := Lib.hid (fun V (hV : Below W6.heap.size W6 V) => HB6.out.trans (hV.mono HB6.out.size))
      go_upto_region 6 with fail
      refine startH (S := fun V => (MdB V w.heap.size q M ∧ StB V W1.heap.size r s) ∧ V.cell? ⟨W2.heap.size, 0, none⟩ = some (.int .i64 v.event) ∧ V.cell? ⟨W2.heap.size, 1, none⟩ = some (.int .i64 v.user) ∧ V.cell? ⟨W2.heap.size, 2, none⟩ = some (.slice ad v.vals.length cp)) (by kernel_rfl) (HSF.out _ (hbz.mono HLE.out)) (fun hHeld => ?_)
      generalize W6.drew = D at hbz hHeld HXR ⊢
      refine takesH [0, 1, 2, 3, 5, 6] (by kernel_rfl) (fun _ _ d _ _ h => by cases d <;> exact h) (by kernel_rfl) (by kernel_rfl) (by assumption) ?_
      repeat (first
        | (refine TakeSeq.cons (v := ?_) rfl (by rfl) ?_ ?_
           rotate_left
           · ((intro w hSw; unfold MdB StB at hSw; go_simp) <;> (try with_reducible rfl))
           (try go_simp))
        | (refine TakeSeq.skip rfl (by rfl) ?_; (try go_simp)))
      refine TakeSeq.nil ?_
      refine callH 4 (by kernel_rfl) (by kernel_rfl) rfl (by rfl) ?_
      intro K hK
      go_simp
      go_at_call 68
      with_reducible refine (HT6.out _ (HBZ.out _ hbz)).mono ?_
      rintro e7 W7 ⟨⟨r7, rfl, hS7, hA7⟩, hbn⟩
      have hlt := HXR.lt
      have hbz := hbz.trans (hbn.mono hbz.size)
      replace HXR := HXR.keep hbn
      refine hK.out _ _ (HSF.out _ (hbz.mono HLE.out)) (fun hHeld => ?_)
      clear hK K hbn
      (try go_simp)
      have HPX := Lib.hid (HPA.out _ r7 (HBZ.out _ hbz) hS7)
      refine callH 7 (by kernel_rfl) (by kernel_rfl) rfl (by rfl) ?_
      intro K hK
      go_simp
      go_at_call 64
      with_reducible refine HPX.out.mono ?_
      rintro e8 W8 ⟨rfl, hbn⟩
      have hbz := hbz.trans (hbn.mono hbz.size)
      replace HXR := HXR.keep hbn
      have hS8 : StQ W8 r7 (pasS M v.event (takeS M s v)) := (StQ.pass v.event hS7 HBD.out).below hbn
      have hA8 : StA D.heap.size r7 (pasS M v.event (takeS M s v)) := hA7.pass v.event
      obtain ⟨sp, hsp⟩ : ∃ s', pasS M v.event (takeS M s v) = s' := ⟨_, rfl⟩
      have HSP := Lib.hid hsp
      rw [hsp] at hS8 hA8 ⊢
      refine hK.out _ _ (HSF.out _ (hbz.mono HLE.out)) (fun hHeld => ?_)
      clear hK K hbn hS7 hA7 HPX HPA HT6 HTK hsp
      unfold stC
      (try go_simp)
      have u0 := HXR.cell (i := 0) rfl
      have t0 := HXR.free 0
      have u1 := HXR.cell (i := 1) rfl
      have t1 := HXR.free 1
      have u2 := HXR.cell (i := 2) rfl
      have t2 := HXR.free 2
      have u3 := HXR.cell (i := 3) rfl
      have t3 := HXR.free 3
      have u4 := HXR.cell (i := 4) rfl
      have t4 := HXR.free 4
      refine callH 8 (by kernel_rfl) (by kernel_rfl) rfl (by rfl) ?_
      intro K hK
      go_simp
      refine hK.out _ _ (HSF.out _ (below_put5 (hbz.mono HLE.out) (Nat.le_refl _) _ _ _ _ _)) (fun hHeld => ?_)
      clear hK K
      (try go_simp)
      refine callH 9 (by kernel_rfl) (by kernel_rfl) rfl (by rfl) ?_
      intro K hK
      go_simp
      refine hK.out _ _ hHeld (fun hHeld => ?_)
      clear hK K
      (try go_simp)
      refine doneH (by kernel_rfl) ?_
      go_wp2
      have hp := HXR.put5 (.slice r7.a0 sp.vals.length r7.k0) (.int .i64 sp.opn) (.int .i64 sp.dne) (.slice r7.a3 sp.did.length r7.k3) (.slice r7.a4 sp.cnt.length r7.k4)
      refine bodyPost_ret (v := .tuple #[.agg #[.slice r7.a0 sp.vals.length r7.k0, .int .i64 sp.opn, .int .i64 sp.dne, .slice r7.a3 sp.did.length r7.k3, .slice r7.a4 sp.cnt.length r7.k4], .int .i64 0]) (do_results hp rfl rfl) rfl ?_
      have hT := (Turned.refl HXR).put5 (.slice r7.a0 sp.vals.length r7.k0) (.int .i64 sp.opn) (.int .i64 sp.dne) (.slice r7.a3 sp.did.length r7.k3) (.slice r7.a4 sp.cnt.length r7.k4)
      have hbx : Below w.heap.size w _ := (HBE.out _ (HB6.out.trans (hbz.mono HB6.out.size))).trans (hT.2.1.mono (by have := HSZ.out; have := HB2.out.size; omega))
      unfold DoP
      rw [HDO.out]
      dsimp only
      rw [HSP.out]
      exact ⟨⟨r7, rfl, hS8.turn hA8 hT hlt, .inr (hA8.mono (by have := HSZ.out; have := HB2.out.size; omega))⟩, hbx⟩
    · have HDO : Hid (doS M s v = (s, 0)) := by unfold Hid doS; rw [if_neg (by rw [HMZ.out]; simp), if_pos HIZ.out]
      obtain ⟨⟨c0, c1, c2, c3, c4, c5, c6, c7, c8, c9⟩, d0, d1, d2, d3, d4⟩ := HF.out _ HB6.out
      have u0 := HX6.out.2.cell (i := 0) rfl
      have t0 := HX6.out.2.free 0
      have u1 := HX6.out.2.cell (i := 1) rfl
      have t1 := HX6.out.2.free 1
      have u2 := HX6.out.2.cell (i := 2) rfl
      have t2 := HX6.out.2.free 2
      have u3 := HX6.out.2.cell (i := 3) rfl
      have t3 := HX6.out.2.free 3
      have u4 := HX6.out.2.cell (i := 4) rfl
      have t4 := HX6.out.2.free 4
      go_wp2
      have hp := HX6.out.2.put5 (.slice r.a0 s.vals.length r.k0) (.int .i64 s.opn) (.int .i64 s.dne) (.slice r.a3 s.did.length r.k3) (.slice r.a4 s.cnt.length r.k4)
      refine bodyPost_ret (v := .tuple #[.agg #[.slice r.a0 s.vals.length r.k0, .int .i64 s.opn, .int .i64 s.dne, .slice r.a3 s.did.length r.k3, .slice r.a4 s.cnt.length r.k4], .int .i64 0]) (do_results hp rfl rfl) rfl ?_
      have hbx := below_put5 (B := w.heap.size) (HBE.out _ HB6.out) (by have := HSZ.out; have := HB2.out.size; omega : w.heap.size ≤ W3.heap.size) (.slice r.a0 s.vals.length r.k0) (.int .i64 s.opn) (.int .i64 s.dne) (.slice r.a3 s.did.length r.k3) (.slice r.a4 s.cnt.length r.k4)
      unfold DoP
      rw [HDO.out]
      exact ⟨⟨r, rfl, HSQ.out.below hbx, .inl ⟨rfl, rfl⟩⟩, hbx⟩
  · have HDO : Hid (doS M s v = (zeroS, mz)) := by unfold Hid doS; rw [if_pos (by rw [HMZ.out]; exact hm0), HMZ.out]
    have hb : (mz != 0) = true := by simp [hm0]
    have u0 := HX5.out.2.cell (i := 0) rfl
    have t0 := HX5.out.2.free 0
    have u1 := HX5.out.2.cell (i := 1) rfl
    have t1 := HX5.out.2.free 1
    have u2 := HX5.out.2.cell (i := 2) rfl
    have t2 := HX5.out.2.free 2
    have u3 := HX5.out.2.cell (i := 3) rfl
    have t3 := HX5.out.2.free 3
    have u4 := HX5.out.2.cell (i := 4) rfl
    have t4 := HX5.out.2.free 4
    clear hm0
    go_wp2
    have hp := HX5.out.2.put5 (.slice none 0 0) (.int .i64 0) (.int .i64 0) (.slice none 0 0) (.slice none 0 0)
    refine bodyPost_ret (v := .tuple #[.agg #[.slice none 0 0, .int .i64 0, .int .i64 0, .slice none 0 0, .slice none 0 0], .int .i64 mz]) (do_results hp rfl rfl) rfl ?_
    have hbx := below_put5 (B := w.heap.size) (HBE.out _ HB5.out) (by have := HSZ.out; have := HB2.out.size; omega : w.heap.size ≤ W3.heap.size) (.slice none 0 0) (.int .i64 0) (.int .i64 0) (.slice none 0 0) (.slice none 0 0)
    unfold DoP
    rw [HDO.out]
    exact ⟨⟨⟨none, 0, none, 0, none, 0⟩, rfl, StQ.zero _, .inr (StA.zero _)⟩, hbx⟩
end Go.Proofs.YtadjnfpomjopkaaGreat

namespace Go.Proofs.YtadjnfpomjopkaaGreat
open Go.RowKit

set_option maxHeartbeats 1000000 in
theorem rin17 (n : Int) (m : Nat) (w : World) : Calls Tryz.prog 47 #[.int .i64 n, .int .i64 (m : Int)] w fun e w' => e = .returned (.bool (inM n m)) ∧ w = w' := by
  rcases (show n < 0 ∨ (0 ≤ n ∧ (m : Int) ≤ n) ∨ (0 ≤ n ∧ n < (m : Int)) by omega) with p | p | p
  · rw [inM_no (show ¬ (0 ≤ n ∧ n < (m : Int)) by omega)]
    have d : decide ((0 : Int) ≤ n) = false := decide_eq_false (by omega)
    clear p
    go_enter Tryz.func47, Tryz.ntmps47
    go_wp2
    go_ret
    exact ⟨rfl, rfl⟩
  · rw [inM_no (show ¬ (0 ≤ n ∧ n < (m : Int)) by omega)]
    have d : decide ((0 : Int) ≤ n) = true := decide_eq_true p.1
    have d2 : decide (n < (m : Int)) = false := decide_eq_false (by omega)
    clear p
    go_enter Tryz.func47, Tryz.ntmps47
    go_wp2
    go_ret
    exact ⟨rfl, rfl⟩
  · rw [inM_iff.2 p]
    have d : decide ((0 : Int) ≤ n) = true := decide_eq_true p.1
    have d2 : decide (n < (m : Int)) = true := decide_eq_true p.2
    clear p
    go_enter Tryz.func47, Tryz.ntmps47
    go_wp2
    go_ret
    exact ⟨rfl, rfl⟩
set_option maxHeartbeats 1000000 in
theorem rin18 (n : Int) (m : Nat) (w : World) : Calls Tryz.prog 69 #[.int .i64 n, .int .i64 (m : Int)] w fun e w' => e = .returned (.bool (inM n m)) ∧ w = w' := by
  rcases (show n < 0 ∨ (0 ≤ n ∧ (m : Int) ≤ n) ∨ (0 ≤ n ∧ n < (m : Int)) by omega) with p | p | p
  · rw [inM_no (show ¬ (0 ≤ n ∧ n < (m : Int)) by omega)]
    have d : decide ((0 : Int) ≤ n) = false := decide_eq_false (by omega)
    clear p
    go_enter Tryz.func69, Tryz.ntmps69
    go_wp2
    go_ret
    exact ⟨rfl, rfl⟩
  · rw [inM_no (show ¬ (0 ≤ n ∧ n < (m : Int)) by omega)]
    have d : decide ((0 : Int) ≤ n) = true := decide_eq_true p.1
    have d2 : decide (n < (m : Int)) = false := decide_eq_false (by omega)
    clear p
    go_enter Tryz.func69, Tryz.ntmps69
    go_wp2
    go_ret
    exact ⟨rfl, rfl⟩
  · rw [inM_iff.2 p]
    have d : decide ((0 : Int) ≤ n) = true := decide_eq_true p.1
    have d2 : decide (n < (m : Int)) = true := decide_eq_true p.2
    clear p
    go_enter Tryz.func69, Tryz.ntmps69
    go_wp2
    go_ret
    exact ⟨rfl, rfl⟩

theorem upW_out {l : List Int} {i : Int} {k n : Nat} (h : inL l (rawU l i k) = false) (hk : k ≤ n) : upW l i n = -1 := by
  unfold upW
  have := rawU_out h (n - k)
  rw [show k + (n - k) = n by omega] at this
  rw [this]; rfl
theorem inL_no {l : List Int} {i : Int} (h : ¬ (0 ≤ i ∧ i < (l.length : Int))) : inL l i = false := by rw [Bool.eq_false_iff]; exact fun e => h (inL_iff.1 e)
set_option maxRecDepth 100000 in
set_option maxHeartbeats 1000000 in
theorem rup_any {w : World} {v : Value} {l : List Int} (h : RowE intE 1 w v l) (i : Int) (n : Nat) (hn : n ≤ 9223372036854775806) :
    Calls Tryz.prog 84 #[v, .int .i64 i, .int .i64 (n : Int)] w fun e w' => e = .returned (.int .i64 (upW l i n)) ∧ w = w' := by
  obtain ⟨ad, cap, e0⟩ := h.len
  subst e0
  have HI := Lib.hid h
  have hmx := h.max
  obtain ⟨R, hR⟩ : ∃ R, upW l i n = R := ⟨_, rfl⟩
  have HRR := Lib.hid hR
  rw [hR]
  clear h hR
  go_enter Tryz.func84, Tryz.ntmps84
  go_wp2
  go_loopw [1, 7] (fun x i' wr => ∃ (k : Nat) (z : Int), i' = .int .i64 (k : Int) ∧ x = .int .i64 z ∧ k ≤ n ∧ Hid (z = rawU l i k) ∧ wr = w) (fun _ i' _ => n - (intOf i').toNat)
  case atStart => exact ⟨0, i, rfl, rfl, Nat.zero_le _, rfl, rfl⟩
  case round =>
    obtain ⟨k, z, rfl, rfl, hk, HZ, rfl⟩ := hrel
    rcases (show z < 0 ∨ (0 ≤ z ∧ (l.length : Int) ≤ z) ∨ (0 ≤ z ∧ z < (l.length : Int)) by omega) with p | p | p
    · have HR : Hid (upW l i n = -1) := upW_out (k := k) (by rw [← HZ.out]; exact inL_no (by omega)) hk
      have HRX : Hid (R = -1) := by unfold Hid; rw [← HRR.out, HR.out]
      rcases Nat.lt_or_ge k n with hlt | hge
      · have hkz := ltI hlt
        clear HR HZ
        go_wp2
        go_ret
        exact ⟨ret_int HRX.out.symm, rfl⟩
      · have hkn : k = n := by omega
        subst hkn
        have hge' := nltI (Nat.not_lt.2 hge)
        clear HR HZ
        go_wp2
        go_ret
        exact ⟨ret_int HRX.out.symm, rfl⟩
    · have HR : Hid (upW l i n = -1) := upW_out (k := k) (by rw [← HZ.out]; exact inL_no (by omega)) hk
      have HRX : Hid (R = -1) := by unfold Hid; rw [← HRR.out, HR.out]
      have d1 : ¬ z < 0 := by omega
      have d2 := p.2
      rcases Nat.lt_or_ge k n with hlt | hge
      · have hkz := ltI hlt
        clear HR HZ p
        go_wp2
        go_ret
        exact ⟨ret_int HRX.out.symm, rfl⟩
      · have hkn : k = n := by omega
        subst hkn
        have hge' := nltI (Nat.not_lt.2 hge)
        clear HR HZ p
        go_wp2
        go_ret
        exact ⟨ret_int HRX.out.symm, rfl⟩
    · obtain ⟨j, rfl⟩ : ∃ j : Nat, z = (j : Int) := ⟨z.toNat, by omega⟩
      obtain ⟨x, hx⟩ : ∃ x, l[j]? = some x := ⟨_, List.getElem?_eq_getElem (by omega)⟩
      obtain ⟨b, off, c, hv, hbl, hc⟩ := HI.out.int hx
      simp only [Value.slice.injEq, true_and] at hv
      have ha := hv.1
      have d1 : ¬ (j : Int) < 0 := by omega
      have d2 : ¬ (l.length : Int) ≤ (j : Int) := by omega
      have d3 := p.2
      have d4 := p.1
      have HIN : Hid (inL l (rawU l i k) = true) := by unfold Hid; rw [← HZ.out]; exact inL_iff.2 p
      rcases Nat.lt_or_ge k n with hlt | hge
      · have hkz := ltI hlt
        have HN : Hid (x = rawU l i (k + 1)) := by
          unfold Hid; rw [rawU, if_pos HIN.out, ← HZ.out]; unfold atL; rw [Int.toNat_natCast, List.getD_eq_getElem?_getD, hx]; rfl
        clear hx hv HZ p
        go_wp2
        (try rw [← ha])
        go_roundw
        case rel => exact ⟨k + 1, x, by go_num, rfl, hlt, HN.out, trivial⟩
        case measure => simp [intOf]; omega
      · have hkn : k = n := by omega
        subst hkn
        have hge' := nltI (Nat.not_lt.2 hge)
        have HRX : Hid (R = (j : Int)) := by unfold Hid; rw [← HRR.out]; unfold upW; rw [if_pos HIN.out, ← HZ.out]
        clear hx hv HZ p HIN
        go_wp2
        go_ret
        exact ⟨ret_int HRX.out.symm, rfl⟩
set_option maxRecDepth 100000 in
set_option maxHeartbeats 1000000 in
theorem ris_any {w : World} {v : Value} {l : List Int} (h : RowE intE 1 w v l) (a i : Int) (hl : l.length ≤ 1000000) :
    Calls Tryz.prog 71 #[v, .int .i64 a, .int .i64 i] w fun e w' => e = .returned (.bool (isUp l a i)) ∧ w = w' := by
  obtain ⟨ad, cap, e0⟩ := h.len
  subst e0
  have HUP : Hid (∀ n : Nat, n ≤ 9223372036854775806 → Calls Tryz.prog 84 #[.slice ad l.length cap, .int .i64 i, .int .i64 (n : Int)] w fun e w' => e = .returned (.int .i64 (upW l i n)) ∧ w = w') := fun n hn => rup_any h i n hn
  obtain ⟨R, hR⟩ : ∃ R, isUp l a i = R := ⟨_, rfl⟩
  have HR := Lib.hid hR
  rw [hR]
  clear h hR
  by_cases ha : 0 ≤ a
  · go_enter Tryz.func71, Tryz.ntmps71
    go_wp2
    go_loopw [7] (fun i' wr => ∃ k : Nat, i' = .int .i64 ((k : Int) + 1) ∧ k ≤ l.length ∧ Hid ((List.range k).any (fun k => decide (0 ≤ a) && decide (upW l i (k + 1) = a)) = false) ∧ wr = w) (fun i' _ => l.length + 1 - (intOf i').toNat)
    case atStart => exact ⟨0, rfl, Nat.zero_le _, rfl, rfl⟩
    case round =>
      obtain ⟨k, rfl, hk, HALL, rfl⟩ := hrel
      rcases Nat.lt_or_ge k l.length with hlt | hge
      · have hkz : (k : Int) + 1 ≤ (l.length : Int) := by omega
        have HUX := Lib.hid (HUP.out (k + 1) (by omega))
        rw [show ((k + 1 : Nat) : Int) = (k : Int) + 1 from rfl] at HUX
        obtain ⟨u, hu⟩ : ∃ u, upW l i (k + 1) = u := ⟨_, rfl⟩
        have HU := Lib.hid hu
        rw [hu] at HUX
        clear hu
        by_cases hua : u = a
        · have HRT : Hid (R = true) := by
            unfold Hid; rw [← HR.out]; exact anyR_hit hlt (by rw [HU.out, decide_eq_true ha, decide_eq_true hua]; rfl)
          have hb : (u == a) = true := by simp [hua]
          clear hua
          go_wp2_with fail
          refine HUX.out.mono ?_
          rintro e w2 ⟨rfl, rfl⟩
          go_wp2
          go_ret
          exact ⟨ret_bool HRT.out.symm, rfl⟩
        · have HM := Lib.hid (anyR_miss (f := fun k => decide (0 ≤ a) && decide (upW l i (k + 1) = a)) HALL.out (by rw [HU.out, decide_eq_false hua, Bool.and_false]))
          have hb : (u == a) = false := by simp [hua]
          clear hua
          go_wp2_with fail
          refine HUX.out.mono ?_
          rintro e w2 ⟨rfl, rfl⟩
          go_wp2
          go_roundw
          case rel => exact ⟨k + 1, by go_num, hlt, HM.out, trivial⟩
          case measure => simp [intOf]; omega
      · have hkn : k = l.length := by omega
        have hge' : ¬ (k : Int) + 1 ≤ (l.length : Int) := by omega
        have HRT : Hid (R = false) := by unfold Hid; rw [← HR.out, ← HALL.out, hkn]; rfl
        clear hkn
        go_wp2
        go_ret
        exact ⟨ret_bool HRT.out.symm, rfl⟩
  · have HRT : Hid (R = false) := by
      unfold Hid; rw [← HR.out]; unfold isUp; rw [decide_eq_false ha]; simp
    have d : decide ((0 : Int) ≤ a) = false := decide_eq_false ha
    go_enter Tryz.func71, Tryz.ntmps71
    go_wp2
    go_loopw [7] (fun i' wr => ∃ k : Nat, i' = .int .i64 ((k : Int) + 1) ∧ k ≤ l.length ∧ wr = w) (fun i' _ => l.length + 1 - (intOf i').toNat)
    case atStart => exact ⟨0, rfl, Nat.zero_le _, rfl⟩
    case round =>
      obtain ⟨k, rfl, hk, rfl⟩ := hrel
      rcases Nat.lt_or_ge k l.length with hlt | hge
      · have hkz : (k : Int) + 1 ≤ (l.length : Int) := by omega
        go_wp2
        go_roundw
        case rel => exact ⟨k + 1, by go_num, hlt, trivial⟩
        case measure => simp [intOf]; omega
      · have hge' : ¬ (k : Int) + 1 ≤ (l.length : Int) := by omega
        go_wp2
        go_ret
        exact ⟨ret_bool HRT.out.symm, rfl⟩
set_option maxRecDepth 100000 in
set_option maxHeartbeats 1000000 in
theorem rwithin_any (s : Int) (n : Nat) (w : World) (hs : N64 s) :
    Calls Tryz.prog 74 #[.int .i64 s, .int .i64 (n : Int)] w fun e w' => e = .returned (.bool (ofN s n)) ∧ w = w' := by
  have HH : Hid (∀ (i : Int) (V : World), Calls Tryz.prog 32 #[.int .i64 s, .int .i64 i] V fun e w' => e = .returned (.bool (hasB s i)) ∧ V = w') := fun i V => rhas_any s i V hs.1 hs.2
  obtain ⟨R, hR⟩ : ∃ R, ofN s n = R := ⟨_, rfl⟩
  have HR : Hid (withinN s n = R) := by unfold Hid; rw [← hR]; exact within_of s n
  rw [hR]
  clear hR hs
  go_enter Tryz.func74, Tryz.ntmps74
  go_wp2
  go_loopw [5] (fun i wr => ∃ k : Nat, i = .int .i64 (k : Int) ∧ k ≤ 31 ∧ Hid ((List.range k).all (fun i => !(decide (n ≤ i) && hasN s i)) = true) ∧ wr = w) (fun i _ => 31 - (intOf i).toNat)
  case atStart => exact ⟨0, rfl, Nat.zero_le _, rfl, rfl⟩
  case round =>
    obtain ⟨k, rfl, hk, HALL, rfl⟩ := hrel
    rcases Nat.lt_or_ge k 31 with hlt | hge
    · have hkz : (k : Int) < 31 := by omega
      have HHX := Lib.hid (HH.out (k : Int) wr)
      have HB : Hid (hasB s (k : Int) = hasN s k) := by unfold Hid hasB; rw [if_pos ⟨by omega, by omega⟩, Int.toNat_natCast]
      rw [HB.out] at HHX
      by_cases hnk : n ≤ k
      · have d1 : (n : Int) ≤ (k : Int) := by omega
        obtain ⟨t, ht⟩ : ∃ t, hasN s k = t := ⟨_, rfl⟩
        rw [ht] at HHX
        cases t
        · have HM : Hid ((List.range (k + 1)).all (fun i => !(decide (n ≤ i) && hasN s i)) = true) := by
            unfold Hid; rw [all_range_succ, HALL.out, ht, Bool.and_false]; rfl
          clear ht HB
          go_wp2_with fail
          refine HHX.out.mono ?_
          rintro e w2 ⟨rfl, rfl⟩
          go_wp2
          go_roundw
          case rel => exact ⟨k + 1, by go_num, hlt, HM.out, trivial⟩
          case measure => simp [intOf]; omega
        · have HRT : Hid (R = false) := by
            unfold Hid; rw [← HR.out]; unfold withinN
            have : (List.range 31).all (fun i => !(decide (n ≤ i) && hasN s i)) = false := by
              rw [List.all_eq_false]
              exact ⟨k, List.mem_range.2 hlt, by rw [ht, decide_eq_true hnk]; simp⟩
            rw [this]; rfl
          clear ht HB
          go_wp2_with fail
          refine HHX.out.mono ?_
          rintro e w2 ⟨rfl, rfl⟩
          go_wp2
          go_ret
          exact ⟨ret_bool HRT.out.symm, rfl⟩
      · have HM : Hid ((List.range (k + 1)).all (fun i => !(decide (n ≤ i) && hasN s i)) = true) := by
          unfold Hid; rw [all_range_succ, HALL.out, decide_eq_false hnk]; rfl
        have d1 : ¬ (n : Int) ≤ (k : Int) := by omega
        clear HB hnk HHX
        go_wp2
        go_roundw
        case rel => exact ⟨k + 1, by go_num, hlt, HM.out, trivial⟩
        case measure => simp [intOf]; omega
    · have hkn : k = 31 := by omega
      subst hkn
      have HRT : Hid (R = (decide (0 ≤ s) && decide (s ≤ 2147483647))) := by
        unfold Hid; rw [← HR.out]; unfold withinN; rw [HALL.out]; rfl
      clear HR HALL
      by_cases p : 0 ≤ s
      · have d1 : decide ((0 : Int) ≤ s) = true := decide_eq_true p
        rw [d1, Bool.true_and] at HRT
        by_cases p2 : s ≤ 2147483647
        · have d2 : decide (s ≤ (2147483647 : Int)) = true := decide_eq_true p2
          rw [d2] at HRT
          clear p p2
          go_wp2
          go_ret
          exact ⟨ret_bool HRT.out.symm, rfl⟩
        · have d2 : decide (s ≤ (2147483647 : Int)) = false := decide_eq_false p2
          rw [d2] at HRT
          clear p p2
          go_wp2
          go_ret
          exact ⟨ret_bool HRT.out.symm, rfl⟩
      · have d1 : decide ((0 : Int) ≤ s) = false := decide_eq_false p
        rw [d1, Bool.false_and] at HRT
        clear p
        go_wp2
        go_ret
        exact ⟨ret_bool HRT.out.symm, rfl⟩
end Go.Proofs.YtadjnfpomjopkaaGreat

namespace Go.Proofs.YtadjnfpomjopkaaGreat
open Go.RowKit

set_option maxRecDepth 100000 in
set_option maxHeartbeats 2000000 in
theorem rparQ {w : World} {q : Mem} {M : Mdl} (hm : MdQ w q M) (hl : M.stages.length ≤ 100000) :
    Calls Tryz.prog 72 #[.agg (mdC q M)] w fun e w' => ∃ v', e = .returned v' ∧ w'.ownsRow w.heap.size 3 1 v' (parL M).length (ints (parL M)) ∧ Below w.heap.size w w' := by
  obtain ⟨W, h1, HB, HM, HF⟩ := boxM hm
  unfold MdB at HF
  unfold mdC at h1 ⊢
  clear hm
  go_enter Tryz.func72, Tryz.ntmps72
  go_wp2
  go_loopw [3, 4] (fun vo i wr => ∃ k : Nat, i = .int .i64 (k : Int) ∧ k ≤ M.stages.length ∧ Hid (wr.ownsRow W.heap.size 3 1 vo k (ints ((parL M).take k)) ∧ Below W.heap.size W wr)) (fun _ i _ => M.stages.length - (intOf i).toNat)
  case atStart => exact ⟨0, rfl, Nat.zero_le _, World.ownsRow_nil _ _ _ _, Below.refl _ _⟩
  case round =>
    obtain ⟨k, rfl, hk, HALL⟩ := hrel
    obtain ⟨ad2, cap2, e2⟩ := owns_len HALL.out.1
    subst e2
    obtain ⟨-, -, -, -, c4, -, -, -, -, -⟩ := HF.out _ HALL.out.2
    rcases Nat.lt_or_ge k M.stages.length with hlt | hge
    · have hkz := ltI hlt
      obtain ⟨x, hx⟩ : ∃ x, M.stages[k]? = some x := ⟨_, List.getElem?_eq_getElem hlt⟩
      obtain ⟨b, off, cap, hv, hbl, a0, a1⟩ := stageRow (HM.out.below HALL.out.2).stages hx
      simp only [Value.slice.injEq] at hv
      have ha := hv.1
      have HT : Hid (ints ((parL M).take (k + 1)) = ints ((parL M).take k) ++ [.int .i64 x.2]) := by
        unfold Hid parL
        rw [List.take_add_one, List.getElem?_map, hx]
        simp [ints]
      have HO3 := Lib.hid HALL.out.1
      have HB3 := Lib.hid HALL.out.2
      rw [ha] at c4
      clear hx hv
      go_wp2_with (first
        | (at_builtin; refine app1 _ #[.int .i64 x.2] rfl _ _ 42 rfl W.heap.size 3 (.int .i64 0) 1 8 Tryz.underlying42 info_int rfl (by decide) (by decide) _ _ _ rfl (by exact HO3.out) rfl (by simp) rfl (by simp [Value.oneCell']) (by omega) HB3.out.size ?_; intro v4 w4 hown4 _ hbel
           obtain ⟨ad4, cap4, e4⟩ := owns_len hown4
           subst e4
           have HO4 := Lib.hid hown4
           have HB4 := Lib.hid (HB3.out.trans hbel)
           clear hown4 hbel)
        | fail)
      (try rw [← ha])
      go_roundw
      case rel => exact ⟨k + 1, by go_num, hlt, by rw [HT.out]; exact HO4.out, HB4.out⟩
      case measure => simp [intOf]; omega
    · have hkn : k = M.stages.length := by omega
      subst hkn
      have hge' := nltI (Nat.not_lt.2 hge)
      go_wp2
      go_ret
      refine ⟨_, rfl, ?_, HB.out.trans (HALL.out.2.mono HB.out.size)⟩
      have := HALL.out.1
      rw [List.take_of_length_le (by simp [parL])] at this
      rw [show (parL M).length = M.stages.length by simp [parL]]
      exact owns_mono this HB.out.size
end Go.Proofs.YtadjnfpomjopkaaGreat
