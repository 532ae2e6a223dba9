/- The reference: Fire (printed by gen_r12.py). -/
import Derived.Test.YtadjnfpomjopkaaGreatSm31
import Derived.Test.YtadjnfpomjopkaaGreatSm20

namespace Go.Proofs.YtadjnfpomjopkaaGreat
open Go.RowKit

theorem Turned.under {V W W' : World} {b C : Nat} {cs : Array Value} {t : TypeId} (h : Turned V W b cs t) (hb : Below C W W') (hC : b < C) (hV : V.heap.size ≤ C) : Turned V W' b cs t :=
  ⟨h.1.low hb hC, h.2.1.trans (hb.mono (Nat.le_of_lt hC)), fun g hne hl => (hb.block g (Nat.lt_of_lt_of_le hl hV)).trans (h.2.2 g hne hl)⟩
theorem findS_miles {M : Mdl} {n : Int} (h : inM n M.miles.length = false) : findS M (true, n) = none := by
  unfold findS; rw [if_pos rfl, if_neg (by rw [h]; simp)]
theorem findS_guards {M : Mdl} {n : Int} (h : inM n M.guards.length = false) : findS M (false, n) = none := by
  unfold findS; rw [if_neg (by simp), if_neg (by rw [h]; simp)]
def closT (M : Mdl) (o st : Int) (k : Nat) : List Bool := (List.range 31).map fun i => hasN o i && !(decide (i < k) && (decide ((i : Int) = st) || isUp (parL M) st (i : Int)))
def undoT (M : Mdl) (d st : Int) (k : Nat) : List Bool := (List.range 31).map fun i => hasN d i && !(decide (i < k) && decide ((mlG M i).stage = st))
theorem rT_len {f : Nat → Bool} : ((List.range 31).map f).length = 31 := by simp
theorem rT_hit {f h : Nat → Bool} {k : Nat} (hf : ∀ i, i < 31 → f i = if i = k then false else h i) : (List.range 31).map f = ((List.range 31).map h).set k false := by
  apply List.ext_getElem?
  intro i
  rw [List.getElem?_set, List.getElem?_map, List.getElem?_map]
  by_cases hi : i < 31
  · rw [List.getElem?_range hi]
    by_cases e : k = i
    · subst e; rw [if_pos rfl]; simp [hi, hf k hi]
    · rw [if_neg e]; simp [hf i hi, Ne.symm e]
  · rw [List.getElem?_eq_none (by simp; omega)]
    by_cases e : k = i
    · subst e; rw [if_pos rfl, if_neg (by simp; omega)]; rfl
    · rw [if_neg e]; rfl
theorem rT_same {f h : Nat → Bool} (hf : ∀ i, i < 31 → f i = h i) : (List.range 31).map f = (List.range 31).map h :=
  List.map_congr_left fun i hi => hf i (List.mem_range.1 hi)
theorem closT_zero (M : Mdl) (o st : Int) : closT M o st 0 = truths o 31 := rT_same fun i _ => by simp
theorem closT_hit {M : Mdl} {o st : Int} {k : Nat} (h : (decide ((k : Int) = st) || isUp (parL M) st (k : Int)) = true) : closT M o st (k + 1) = (closT M o st k).set k false := rT_hit fun i _ => by
  by_cases e : i = k
  · subst e; rw [h]; simp
  · have : decide (i < k + 1) = decide (i < k) := decide_eq_decide.2 (by omega)
    rw [if_neg e, this]
theorem closT_miss {M : Mdl} {o st : Int} {k : Nat} (h : (decide ((k : Int) = st) || isUp (parL M) st (k : Int)) = false) : closT M o st (k + 1) = closT M o st k := rT_same fun i _ => by
  by_cases e : i = k
  · subst e; rw [h]; simp
  · have : decide (i < k + 1) = decide (i < k) := decide_eq_decide.2 (by omega)
    rw [this]
theorem closT_all {M : Mdl} {o : Int} {st : Nat} (hst : st < M.stages.length) : ((sumB (closT M o (st : Int) M.stages.length) : Nat) : Int) = closeZ M o (st : Int) := by
  unfold closeZ
  refine congrArg (fun n : Nat => (n : Int)) (ofB_congr _ _ fun j hj => ?_)
  by_cases e : (j : Int) = (st : Int)
  · rw [decide_eq_true e, decide_eq_true (show j < M.stages.length by omega)]; simp
  · rw [decide_eq_false e]; simp
theorem undoT_zero (M : Mdl) (d st : Int) : undoT M d st 0 = truths d 31 := rT_same fun i _ => by simp
theorem undoT_hit {M : Mdl} {d st : Int} {k : Nat} (h : (mlG M k).stage = st) : undoT M d st (k + 1) = (undoT M d st k).set k false := rT_hit fun i _ => by
  by_cases e : i = k
  · subst e; rw [decide_eq_true h]; simp
  · have : decide (i < k + 1) = decide (i < k) := decide_eq_decide.2 (by omega)
    rw [if_neg e, this]
theorem undoT_miss {M : Mdl} {d st : Int} {k : Nat} (h : (mlG M k).stage ≠ st) : undoT M d st (k + 1) = undoT M d st k := rT_same fun i _ => by
  by_cases e : i = k
  · subst e; rw [decide_eq_false h]; simp
  · have : decide (i < k + 1) = decide (i < k) := decide_eq_decide.2 (by omega)
    rw [this]
theorem undoT_all (M : Mdl) (d st : Int) : ((sumB (undoT M d st M.miles.length) : Nat) : Int) = undoZ M d st := rfl
theorem bools_set (l : List Bool) (k : Nat) (b : Bool) : bools (l.set k b) = (bools l).set k (.bool b) := by unfold bools; rw [List.map_set]
theorem bools_at {l : List Bool} {k : Nat} (h : k < l.length) : ∃ b, (bools l)[k]? = some (.bool b) := ⟨l[k], by unfold bools; rw [List.getElem?_map, List.getElem?_eq_getElem h]; rfl⟩
/-- a truth of one's own row is put to false -/
theorem row_off {w : World} {base g cap : Nat} {t : TypeId} {l : List Bool} (h : w.ownsRow base t 1 (.slice (some ⟨g, 0, none⟩) 31 cap) 31 (bools l)) (hl : l.length = 31) {k : Nat} (hk : k < 31) :
    (∃ b, w.cell? ⟨g, k, none⟩ = some (.bool b)) ∧ w.frozen? ⟨g, k, none⟩ = false ∧ (w.setCell ⟨g, k, none⟩ (.bool false)).ownsRow base t 1 (.slice (some ⟨g, 0, none⟩) 31 cap) 31 (bools (l.set k false)) ∧ base ≤ g := by
  obtain ⟨b, hb⟩ := bools_at (show k < l.length by omega)
  refine ⟨⟨b, by rw [World.ownsRow.cellAt h k (by omega), hb]⟩, World.ownsRow.frozenAt h k, by rw [bools_set]; exact (World.ownsRow.stored h k _).1, (h.lt g rfl).1⟩

set_option maxRecDepth 100000 in
set_option maxHeartbeats 8000000 in
theorem rfireG {w : World} {q : Mem} {M : Mdl} {r : Stm} {s : Sta} (hm : MdQ w q M) (hk : SOK s) (xn : Int) (hl : M.stages.length ≤ 31) (hml : M.miles.length ≤ 31) :
    Calls Tryz.prog 61 #[.agg (mdC q M), .agg (stC r s), .agg #[.bool false, .int .i64 xn]] w (Ret w (.agg (stC r (fireS M s (false, xn))))) := by
  obtain ⟨RC, hRC⟩ : ∃ RC, stC r (fireS M s (false, xn)) = RC := ⟨_, rfl⟩
  rw [hRC]
  obtain ⟨W1, h1, HB1, HM, HF⟩ := boxM hm
  obtain ⟨W2, h2, hb2, x2⟩ := box1 W1 (stC r s) 44
  obtain ⟨W3, h3, hb3, x3⟩ := box1 W2 #[.bool false, .int .i64 xn] 118
  obtain ⟨W4, h4, hb4, x4⟩ := box1 W3 #[.slice none 0 0, .int .i64 0, .int .i64 0, .slice none 0 0, .slice none 0 0] 44
  have hs2 : W2.heap.size = W1.heap.size + 1 := by rw [← h2]; simp
  have hs3 : W3.heap.size = W2.heap.size + 1 := by rw [← h3]; simp
  have hs4 : W4.heap.size = W3.heap.size + 1 := by rw [← h4]; simp
  have hb24 := hb3.trans (hb4.mono hb3.size)
  have hb14 := hb2.trans (hb24.mono hb2.size)
  have HB14 := Lib.hid hb14
  have HX := Lib.hid (And.intro (x3.keep hb4) x4)
  have HT4 := Lib.hid (Turned.refl (x2.keep hb24))
  have HSZ : Hid (w.heap.size ≤ W1.heap.size ∧ W2.heap.size = W1.heap.size + 1 ∧ W3.heap.size = W2.heap.size + 1 ∧ W4.heap.size = W3.heap.size + 1) := ⟨HB1.out.size, hs2, hs3, hs4⟩
  have HOK := Lib.hid hk
  have HLL := Lib.hid hl
  have HML := Lib.hid hml
  have hmm := hm.miles.max
  have hmg := hm.guards.max
  have hms := hm.stages.max
  have HPA : Hid (∀ V, Below W1.heap.size W1 V → Calls Tryz.prog 72 #[.agg (mdC q M)] V fun e w' => ∃ v', e = .returned v' ∧ w'.ownsRow V.heap.size 3 1 v' (parL M).length (ints (parL M)) ∧ Below V.heap.size V w') := fun V hV => rparQ (HM.out.below hV) (by omega)
  unfold mdC at h1 HPA
  unfold stC at h2 HT4 hRC
  unfold mdC stC
  unfold MdB at HF
  clear hm hk hb2 hb3 hb4 x2 x3 x4 hs2 hs3 hs4 hb24 hb14
  obtain ⟨c0, c1, c2, c3, c4, c5, c6, c7, c8, c9⟩ := HF.out _ HB14.out
  have y0 := HX.out.1.cell (i := 0) rfl
  have y1 := HX.out.1.cell (i := 1) rfl

  have HI1 := Lib.hid (fun V => rin18 xn M.guards.length V)
  go_enter Tryz.func61, Tryz.ntmps61
  go_upto_region 14 with fail
  clear c0 c1 c2 c3 c4 c5 c6 c7 c8 c9 y0 y1
  cases i1 : inM xn M.guards.length
  case false =>
    have HE : Hid (RC = #[.slice r.a0 s.vals.length r.k0, .int .i64 s.opn, .int .i64 s.dne, .slice r.a3 s.did.length r.k3, .slice r.a4 s.cnt.length r.k4]) := by
      unfold Hid; rw [← hRC]; unfold fireS
      rw [findS_guards i1]
    rw [i1] at HI1
    have HSF : Hid (∀ V, Below W4.heap.size W4 V → MdB V w.heap.size q M ∧ V.cell? ⟨W2.heap.size, 1, none⟩ = some (.int .i64 xn)) := fun V hV => ⟨by unfold MdB; exact HF.out V (HB14.out.trans (hV.mono HB14.out.size)), (HX.out.1.keep hV).cell rfl⟩
    clear i1 hRC
    have hbz : Below W4.heap.size W4 W4.drew := (Below.refl _ _).drew
    refine startH (S := fun V => MdB V w.heap.size q M ∧ V.cell? ⟨W2.heap.size, 1, none⟩ = some (.int .i64 xn)) (by kernel_rfl) (HSF.out _ hbz) (fun hHeld => ?_)
    refine takesH [0, 1, 2, 3, 4] (by kernel_rfl) (fun _ _ d _ _ h => by cases d <;> exact h) (by kernel_rfl) (by kernel_rfl) (by assumption) ?_
    repeat (first
      | (refine TakeSeq.cons (v := ?_) rfl (by rfl) ?_ ?_
         rotate_left
         · ((intro w hSw; unfold MdB at hSw; go_simp) <;> (try with_reducible rfl))
         (try go_simp))
      | (refine TakeSeq.skip rfl (by rfl) ?_; (try go_simp)))
    refine TakeSeq.nil ?_
    refine callH 5 (by kernel_rfl) (by kernel_rfl) rfl (by rfl) ?_
    intro K hK
    go_simp
    go_at_call 69
    with_reducible refine (HI1.out _).mono ?_
    rintro e5 w5 ⟨rfl, rfl⟩
    refine hK.out _ _ (HSF.out _ hbz) (fun hHeld => ?_)
    clear hK K
    (try go_simp)
    refine takesH [6, 7, 8, 9, 10, 11, 12, 13, 14, 15, 16, 17, 18, 19, 20] (by kernel_rfl) (fun _ _ d _ _ h => by cases d <;> exact h) (by kernel_rfl) (by kernel_rfl) (by assumption) ?_
    repeat (first
      | (refine TakeSeq.cons (v := ?_) rfl (by rfl) ?_ ?_
         rotate_left
         · ((intro w hSw; unfold MdB at hSw; go_simp) <;> (try with_reducible rfl))
         (try go_simp))
      | (refine TakeSeq.skip rfl (by rfl) ?_; (try go_simp)))
    refine TakeSeq.nil ?_
    refine doneH (by kernel_rfl) ?_
    generalize W4.drew = W5 at hbz hHeld ⊢
    have HT5 := Lib.hid (HT4.out.grow hbz)
    have HBZ := Lib.hid hbz
    clear hbz hHeld
    have HS5 := Lib.hid HT5.out.1
    have HZ5 := Lib.hid (HT5.out.blk HX.out.2 (by have := HSZ.out; omega))
    have m0 := HS5.out.cell (i := 0) rfl
    have u0 := HZ5.out.cell (i := 0) rfl
    have t0 := HZ5.out.free 0
    have m1 := HS5.out.cell (i := 1) rfl
    have u1 := HZ5.out.cell (i := 1) rfl
    have t1 := HZ5.out.free 1
    have m2 := HS5.out.cell (i := 2) rfl
    have u2 := HZ5.out.cell (i := 2) rfl
    have t2 := HZ5.out.free 2
    have m3 := HS5.out.cell (i := 3) rfl
    have u3 := HZ5.out.cell (i := 3) rfl
    have t3 := HZ5.out.free 3
    have m4 := HS5.out.cell (i := 4) rfl
    have u4 := HZ5.out.cell (i := 4) rfl
    have t4 := HZ5.out.free 4
    go_wp2
    have hp := HZ5.out.put5 (.slice r.a0 s.vals.length r.k0) (.int .i64 s.opn) (.int .i64 s.dne) (.slice r.a3 s.did.length r.k3) (.slice r.a4 s.cnt.length r.k4)
    refine bodyPost_ret (v := .agg #[.slice r.a0 s.vals.length r.k0, .int .i64 s.opn, .int .i64 s.dne, .slice r.a3 s.did.length r.k3, .slice r.a4 s.cnt.length r.k4]) (st_results hp rfl Tryz.f61 rfl) rfl ?_
    rw [HE.out]
    exact ⟨rfl, below_put5 (HB1.out.trans ((HT5.out.low HB14.out (Nat.le_refl _)).mono HB1.out.size)) (by have := HSZ.out; omega) _ _ _ _ _⟩
  rw [i1] at HI1
  obtain ⟨n, rfl, hnl⟩ := inM_nat i1
  obtain ⟨m, hmx⟩ : ∃ m, M.guards[n]? = some m := ⟨_, List.getElem?_eq_getElem hnl⟩
  obtain ⟨b, off, cap, ai, ki, hv, hbl, hin, a0, a1, a2⟩ := guardRow (HM.out.below HB14.out).guards hmx
  simp only [Value.slice.injEq] at hv
  have ha := hv.1
  rw [ha] at HPA
  have hn0 : (0 : Int) ≤ (n : Int) := Int.natCast_nonneg _
  have hn1 := ltI hnl
  have HI2 := Lib.hid (fun V => rin18 m.stage M.stages.length V)
  have HSF : Hid (∀ V, Below W4.heap.size W4 V → MdB V w.heap.size q M ∧ V.cell? ⟨W2.heap.size, 1, none⟩ = some (.int .i64 (n : Int)) ∧ V.cell? ⟨b, off + n * 3, none⟩ = some (.int .i64 m.stage)) := fun V hV => ⟨by unfold MdB; exact HF.out V (HB14.out.trans (hV.mono HB14.out.size)), (HX.out.1.keep hV).cell rfl, (hV.cell (p := ⟨b, off + n * 3, none⟩) hbl).trans a0⟩
  have HFS := Lib.hid (findS_guard hmx)
  clear i1 hmx hv hbl hin a0 a1 a2  hnl
  cases i2 : inM m.stage M.stages.length
  case false =>
    have HE : Hid (RC = #[.slice r.a0 s.vals.length r.k0, .int .i64 s.opn, .int .i64 s.dne, .slice r.a3 s.did.length r.k3, .slice r.a4 s.cnt.length r.k4]) := by
      unfold Hid; rw [← hRC]; unfold fireS
      rw [HFS.out]; dsimp only; rw [i2]; rfl
    rw [i2] at HI2
    clear i2 hRC
    have hbz : Below W4.heap.size W4 W4.drew := (Below.refl _ _).drew
    refine startH (S := fun V => MdB V w.heap.size q M ∧ V.cell? ⟨W2.heap.size, 1, none⟩ = some (.int .i64 (n : Int)) ∧ V.cell? ⟨b, off + n * 3, none⟩ = some (.int .i64 m.stage)) (by kernel_rfl) (HSF.out _ hbz) (fun hHeld => ?_)
    refine takesH [0, 1, 2, 3, 4] (by kernel_rfl) (fun _ _ d _ _ h => by cases d <;> exact h) (by kernel_rfl) (by kernel_rfl) (by assumption) ?_
    repeat (first
      | (refine TakeSeq.cons (v := ?_) rfl (by rfl) ?_ ?_
         rotate_left
         · ((intro w hSw; unfold MdB at hSw; go_simp) <;> (try with_reducible rfl))
         (try go_simp))
      | (refine TakeSeq.skip rfl (by rfl) ?_; (try go_simp)))
    refine TakeSeq.nil ?_
    refine callH 5 (by kernel_rfl) (by kernel_rfl) rfl (by rfl) ?_
    intro K hK
    go_simp
    go_at_call 69
    with_reducible refine (HI1.out _).mono ?_
    rintro e5 w5 ⟨rfl, rfl⟩
    refine hK.out _ _ (HSF.out _ hbz) (fun hHeld => ?_)
    clear hK K
    (try go_simp)
    refine takesH [6, 7, 8, 9, 10, 11, 12, 13, 14, 15, 16, 17] (by kernel_rfl) (fun _ _ d _ _ h => by cases d <;> exact h) (by kernel_rfl) (by kernel_rfl) (by assumption) ?_
    repeat (first
      | (refine TakeSeq.cons (v := ?_) rfl (by rfl) ?_ ?_
         rotate_left
         · ((intro w hSw; unfold MdB at hSw; go_simp) <;> (try with_reducible rfl))
         (try go_simp))
      | (refine TakeSeq.skip rfl (by rfl) ?_; (try go_simp)))
    refine TakeSeq.nil ?_
    refine callH 18 (by kernel_rfl) (by kernel_rfl) rfl (by rfl) ?_
    intro K hK
    go_simp
    go_at_call 69
    with_reducible refine (HI2.out _).mono ?_
    rintro e5 w5 ⟨rfl, rfl⟩
    refine hK.out _ _ (HSF.out _ hbz) (fun hHeld => ?_)
    clear hK K
    (try go_simp)
    refine takesH [19, 20] (by kernel_rfl) (fun _ _ d _ _ h => by cases d <;> exact h) (by kernel_rfl) (by kernel_rfl) (by assumption) ?_
    repeat (first
      | (refine TakeSeq.cons (v := ?_) rfl (by rfl) ?_ ?_
         rotate_left
         · ((intro w hSw; unfold MdB at hSw; go_simp) <;> (try with_reducible rfl))
         (try go_simp))
      | (refine TakeSeq.skip rfl (by rfl) ?_; (try go_simp)))
    refine TakeSeq.nil ?_
    refine doneH (by kernel_rfl) ?_
    generalize W4.drew = W5 at hbz hHeld ⊢
    have HT5 := Lib.hid (HT4.out.grow hbz)
    have HBZ := Lib.hid hbz
    clear hbz hHeld
    have HS5 := Lib.hid HT5.out.1
    have HZ5 := Lib.hid (HT5.out.blk HX.out.2 (by have := HSZ.out; omega))
    have m0 := HS5.out.cell (i := 0) rfl
    have u0 := HZ5.out.cell (i := 0) rfl
    have t0 := HZ5.out.free 0
    have m1 := HS5.out.cell (i := 1) rfl
    have u1 := HZ5.out.cell (i := 1) rfl
    have t1 := HZ5.out.free 1
    have m2 := HS5.out.cell (i := 2) rfl
    have u2 := HZ5.out.cell (i := 2) rfl
    have t2 := HZ5.out.free 2
    have m3 := HS5.out.cell (i := 3) rfl
    have u3 := HZ5.out.cell (i := 3) rfl
    have t3 := HZ5.out.free 3
    have m4 := HS5.out.cell (i := 4) rfl
    have u4 := HZ5.out.cell (i := 4) rfl
    have t4 := HZ5.out.free 4
    go_wp2
    have hp := HZ5.out.put5 (.slice r.a0 s.vals.length r.k0) (.int .i64 s.opn) (.int .i64 s.dne) (.slice r.a3 s.did.length r.k3) (.slice r.a4 s.cnt.length r.k4)
    refine bodyPost_ret (v := .agg #[.slice r.a0 s.vals.length r.k0, .int .i64 s.opn, .int .i64 s.dne, .slice r.a3 s.did.length r.k3, .slice r.a4 s.cnt.length r.k4]) (st_results hp rfl Tryz.f61 rfl) rfl ?_
    rw [HE.out]
    exact ⟨rfl, below_put5 (HB1.out.trans ((HT5.out.low HB14.out (Nat.le_refl _)).mono HB1.out.size)) (by have := HSZ.out; omega) _ _ _ _ _⟩
  obtain ⟨j, hj, hjl⟩ := inM_nat i2
  rw [i2] at HI2
  rw [hj] at HI2 HSF HFS
  rw [hj] at i2
  have HIN2 := Lib.hid i2
  have HJL := Lib.hid hjl
  clear i2 hj
  have hbz : Below W4.heap.size W4 W4.drew := (Below.refl _ _).drew
  refine startH (S := fun V => MdB V w.heap.size q M ∧ V.cell? ⟨W2.heap.size, 1, none⟩ = some (.int .i64 (n : Int)) ∧ V.cell? ⟨b, off + n * 3, none⟩ = some (.int .i64 (j : Int))) (by kernel_rfl) (HSF.out _ hbz) (fun hHeld => ?_)
  refine takesH [0, 1, 2, 3, 4] (by kernel_rfl) (fun _ _ d _ _ h => by cases d <;> exact h) (by kernel_rfl) (by kernel_rfl) (by assumption) ?_
  repeat (first
    | (refine TakeSeq.cons (v := ?_) rfl (by rfl) ?_ ?_
       rotate_left
       · ((intro w hSw; unfold MdB at hSw; go_simp) <;> (try with_reducible rfl))
       (try go_simp))
    | (refine TakeSeq.skip rfl (by rfl) ?_; (try go_simp)))
  refine TakeSeq.nil ?_
  refine callH 5 (by kernel_rfl) (by kernel_rfl) rfl (by rfl) ?_
  intro K hK
  go_simp
  go_at_call 69
  with_reducible refine (HI1.out _).mono ?_
  rintro e5 w5 ⟨rfl, rfl⟩
  refine hK.out _ _ (HSF.out _ hbz) (fun hHeld => ?_)
  clear hK K
  (try go_simp)
  refine takesH [6, 7, 8, 9, 10, 11, 12, 13, 14, 15, 16, 17] (by kernel_rfl) (fun _ _ d _ _ h => by cases d <;> exact h) (by kernel_rfl) (by kernel_rfl) (by assumption) ?_
  repeat (first
    | (refine TakeSeq.cons (v := ?_) rfl (by rfl) ?_ ?_
       rotate_left
       · ((intro w hSw; unfold MdB at hSw; go_simp) <;> (try with_reducible rfl))
       (try go_simp))
    | (refine TakeSeq.skip rfl (by rfl) ?_; (try go_simp)))
  refine TakeSeq.nil ?_
  refine callH 18 (by kernel_rfl) (by kernel_rfl) rfl (by rfl) ?_
  intro K hK
  go_simp
  go_at_call 69
  with_reducible refine (HI2.out _).mono ?_
  rintro e5 w5 ⟨rfl, rfl⟩
  refine hK.out _ _ (HSF.out _ hbz) (fun hHeld => ?_)
  clear hK K
  (try go_simp)
  refine takesH [19, 20] (by kernel_rfl) (fun _ _ d _ _ h => by cases d <;> exact h) (by kernel_rfl) (by kernel_rfl) (by assumption) ?_
  repeat (first
    | (refine TakeSeq.cons (v := ?_) rfl (by rfl) ?_ ?_
       rotate_left
       · ((intro w hSw; unfold MdB at hSw; go_simp) <;> (try with_reducible rfl))
       (try go_simp))
    | (refine TakeSeq.skip rfl (by rfl) ?_; (try go_simp)))
  refine TakeSeq.nil ?_
  refine doneH (by kernel_rfl) ?_
  generalize W4.drew = W5 at hbz hHeld ⊢
  have HT5 := Lib.hid (HT4.out.grow hbz)
  have HBZ := Lib.hid hbz
  clear hbz hHeld
  have ac := (HSF.out _ HBZ.out).2.2
  have HB5 := Lib.hid (HT5.out.low HB14.out (Nat.le_refl _))
  obtain ⟨c0, c1, c2, c3, c4, c5, c6, c7, c8, c9⟩ := HF.out _ HB5.out
  have d0 := HT5.out.1.cell (i := 0) rfl
  have d1 := HT5.out.1.cell (i := 1) rfl
  have d2 := HT5.out.1.cell (i := 2) rfl
  have d3 := HT5.out.1.cell (i := 3) rfl
  have d4 := HT5.out.1.cell (i := 4) rfl
  have f1 := HT5.out.1.free 1
  have f2 := HT5.out.1.free 2
  have y0 := (HT5.out.blk HX.out.1 (by have := HSZ.out; omega)).cell (i := 0) rfl
  have y1 := (HT5.out.blk HX.out.1 (by have := HSZ.out; omega)).cell (i := 1) rfl
  have HPU := Lib.hid (put_any s.opn (j : Int) true W5 HOK.out.opn.1 HOK.out.opn.2)
  go_wp2_with fail
  refine HPU.out.mono ?_
  rintro e6 W6 ⟨rfl, hb6⟩
  have HT6 := Lib.hid (HT5.out.grow hb6)
  obtain ⟨W7, h7⟩ : ∃ W, W6.setCell ⟨W1.heap.size, 1, none⟩ (.int .i64 (putZ s.opn (j : Int) true)) = W := ⟨_, rfl⟩
  have HT7 : Hid (Turned W4 W7 W1.heap.size #[.slice r.a0 s.vals.length r.k0, .int .i64 (putZ s.opn (j : Int) true), .int .i64 s.dne, .slice r.a3 s.did.length r.k3, .slice r.a4 s.cnt.length r.k4] 44) := by rw [← h7]; exact HT6.out.store 1 _
  clear c0 c1 c2 c3 c4 c5 c6 c7 c8 c9 d0 d1 d2 d3 d4 f1 f2 y0 y1 hb6 ac
  have e1 := HT6.out.1.cell (i := 1) rfl
  have g1 := HT6.out.1.free 1
  have HB7 := Lib.hid (HT7.out.low HB14.out (Nat.le_refl _))
  obtain ⟨c0, c1, c2, c3, c4, c5, c6, c7, c8, c9⟩ := HF.out _ HB7.out
  have d0 := HT7.out.1.cell (i := 0) rfl
  have d1 := HT7.out.1.cell (i := 1) rfl
  have d2 := HT7.out.1.cell (i := 2) rfl
  have d3 := HT7.out.1.cell (i := 3) rfl
  have d4 := HT7.out.1.cell (i := 4) rfl
  have f1 := HT7.out.1.free 1
  have f2 := HT7.out.1.free 2
  have y0 := (HT7.out.blk HX.out.1 (by have := HSZ.out; omega)).cell (i := 0) rfl
  have y1 := (HT7.out.blk HX.out.1 (by have := HSZ.out; omega)).cell (i := 1) rfl
  have HIW := Lib.hid (in_any s.dne W7 HOK.out.dne.1 HOK.out.dne.2)
  go_wp2_with fail
  refine HIW.out.mono ?_
  rintro e8 W8 ⟨v8, rfl, hrow, hb8⟩
  obtain ⟨g, cap8, hv8, hg8, hg8l⟩ := owns_shape hrow (by omega)
  subst hv8
  have HT8 := Lib.hid (HT7.out.grow hb8)
  have HW7 : Hid (W4.heap.size ≤ W7.heap.size) := HT7.out.2.1.size
  have HG := Lib.hid hg8
  have HR8L := Lib.hid hb8.size
  have HR8 := Lib.hid hrow
  clear c0 c1 c2 c3 c4 c5 c6 c7 c8 c9 d0 d1 d2 d3 d4 f1 f2 y0 y1 hb8 hrow hg8 hg8l e1 g1
  go_wp2
  go_loopw [12] (fun i wr => ∃ k : Nat, i = .int .i64 (k : Int) ∧ k ≤ M.miles.length ∧ Hid (wr.ownsRow W7.heap.size 4 1 (.slice (some ⟨g, 0, none⟩) 31 cap8) 31 (bools (undoT M s.dne (j : Int) k))) ∧ Hid (Below W7.heap.size W8 wr)) (fun i _ => M.miles.length - (intOf i).toNat)
  case atStart => exact ⟨0, rfl, Nat.zero_le _, by rw [undoT_zero]; exact HR8.out, Below.refl _ _⟩
  case round =>
    obtain ⟨k, rfl, hk, HR, HBR⟩ := hrel
    have HT9 := Lib.hid (HT8.out.under HBR.out (by have := HSZ.out; have := HW7.out; omega) HW7.out)
    have HB9 := Lib.hid (HT9.out.low HB14.out (Nat.le_refl _))
    obtain ⟨c0, c1, c2, c3, c4, c5, c6, c7, c8, c9⟩ := HF.out _ HB9.out
    have d0 := HT9.out.1.cell (i := 0) rfl
    have d1 := HT9.out.1.cell (i := 1) rfl
    have d2 := HT9.out.1.cell (i := 2) rfl
    have d3 := HT9.out.1.cell (i := 3) rfl
    have d4 := HT9.out.1.cell (i := 4) rfl
    have f1 := HT9.out.1.free 1
    have f2 := HT9.out.1.free 2
    have y0 := (HT9.out.blk HX.out.1 (by have := HSZ.out; omega)).cell (i := 0) rfl
    have y1 := (HT9.out.blk HX.out.1 (by have := HSZ.out; omega)).cell (i := 1) rfl
    rcases Nat.lt_or_ge k M.miles.length with hlt | hge
    · have hkz := ltI hlt
      have hk31 : (k : Int) < 31 := by have := HLL.out; have := HML.out; omega
      have hk0 : (0 : Int) ≤ (k : Int) := Int.natCast_nonneg _
      obtain ⟨x, hx⟩ : ∃ x, M.miles[k]? = some x := ⟨_, List.getElem?_eq_getElem hlt⟩
      obtain ⟨bx, ox, capx, ax, kx, hvx, hblx, -, z0, z1, z2, z3, z4⟩ := mileRow (HM.out.below HB9.out).miles hx
      simp only [Value.slice.injEq] at hvx
      have hax := hvx.1
      have HGX := Lib.hid (mlG_of hx)
      rw [hax] at c7
      clear hx hvx hblx
      by_cases e : x.stage = (j : Int)
      · have be : (x.stage == (j : Int)) = true := by simp [e]
        have HM2 : Hid (undoT M s.dne (j : Int) (k + 1) = (undoT M s.dne (j : Int) k).set k false) := undoT_hit (by rw [HGX.out]; exact e)
        obtain ⟨⟨bo, cb⟩, fb, hst, hbg⟩ := row_off HR.out rT_len (show k < 31 by omega)
        have HST := Lib.hid hst
        clear e hst hbg
        go_wp2
        (try rw [← hax])
        go_roundw
        case rel => exact ⟨k + 1, by go_num, hlt, by rw [HM2.out]; exact HST.out, HBR.out.setCell (p := ⟨g, k, none⟩) HG.out _⟩
        case measure => simp [intOf]; omega
      · have be : (x.stage == (j : Int)) = false := by rw [beq_eq_false_iff_ne]; exact e
        have HM2 : Hid (undoT M s.dne (j : Int) (k + 1) = undoT M s.dne (j : Int) k) := undoT_miss (by rw [HGX.out]; exact e)
        clear e
        go_wp2
        (try rw [← hax])
        go_roundw
        case rel => exact ⟨k + 1, by go_num, hlt, by rw [HM2.out]; exact HR.out, HBR.out⟩
        case measure => simp [intOf]; omega
    · have hkn : k = M.miles.length := by omega
      have hge' := nltI (Nat.not_lt.2 hge)
      have HSU := Lib.hid (sum_any (.slice (some ⟨g, 0, none⟩) 31 cap8) (undoT M s.dne (j : Int) k) wr rT_len (Reads.of_owns HR.out))
      have HVV : Hid (((sumB (undoT M s.dne (j : Int) k) : Nat) : Int) = undoZ M s.dne (j : Int)) := by unfold Hid; rw [hkn]; exact undoT_all _ _ _
      rw [HVV.out] at HSU
      have HE : Hid (RC = #[.slice r.a0 s.vals.length r.k0, .int .i64 (putZ s.opn (j : Int) true), .int .i64 (undoZ M s.dne (j : Int)), .slice r.a3 s.did.length r.k3, .slice r.a4 s.cnt.length r.k4]) := by
        unfold Hid; rw [← hRC]; unfold fireS
        rw [HFS.out]; dsimp only; rw [if_pos HIN2.out]; rfl
      obtain ⟨W11, h11⟩ : ∃ W, wr.setCell ⟨W1.heap.size, 2, none⟩ (.int .i64 (undoZ M s.dne (j : Int))) = W := ⟨_, rfl⟩
      have HT11 : Hid (Turned W4 W11 W1.heap.size #[.slice r.a0 s.vals.length r.k0, .int .i64 (putZ s.opn (j : Int) true), .int .i64 (undoZ M s.dne (j : Int)), .slice r.a3 s.did.length r.k3, .slice r.a4 s.cnt.length r.k4] 44) := by rw [← h11]; exact HT9.out.store 2 _
      clear hkn hge HVV
      go_wp2_with fail
      refine HSU.out.mono ?_
      rintro e12 w12 ⟨rfl, rfl⟩
      go_upto_region 25 with fail
      clear c0 c1 c2 c3 c4 c5 c6 c7 c8 c9 d0 d1 d2 d3 d4 f1 f2 y0 y1
      have HS11 := Lib.hid HT11.out.1
      have HZ11 := Lib.hid (HT11.out.blk HX.out.2 (by have := HSZ.out; omega))
      have m0 := HS11.out.cell (i := 0) rfl
      have u0 := HZ11.out.cell (i := 0) rfl
      have t0 := HZ11.out.free 0
      have m1 := HS11.out.cell (i := 1) rfl
      have u1 := HZ11.out.cell (i := 1) rfl
      have t1 := HZ11.out.free 1
      have m2 := HS11.out.cell (i := 2) rfl
      have u2 := HZ11.out.cell (i := 2) rfl
      have t2 := HZ11.out.free 2
      have m3 := HS11.out.cell (i := 3) rfl
      have u3 := HZ11.out.cell (i := 3) rfl
      have t3 := HZ11.out.free 3
      have m4 := HS11.out.cell (i := 4) rfl
      have u4 := HZ11.out.cell (i := 4) rfl
      have t4 := HZ11.out.free 4
      go_wp2
      have hp := HZ11.out.put5 (.slice r.a0 s.vals.length r.k0) (.int .i64 (putZ s.opn (j : Int) true)) (.int .i64 (undoZ M s.dne (j : Int))) (.slice r.a3 s.did.length r.k3) (.slice r.a4 s.cnt.length r.k4)
      refine bodyPost_ret (v := .agg #[.slice r.a0 s.vals.length r.k0, .int .i64 (putZ s.opn (j : Int) true), .int .i64 (undoZ M s.dne (j : Int)), .slice r.a3 s.did.length r.k3, .slice r.a4 s.cnt.length r.k4]) (st_results hp rfl Tryz.f61 rfl) rfl ?_
      rw [HE.out]
      exact ⟨rfl, below_put5 (HB1.out.trans ((HT11.out.low HB14.out (Nat.le_refl _)).mono HB1.out.size)) (by have := HSZ.out; omega) _ _ _ _ _⟩

end Go.Proofs.YtadjnfpomjopkaaGreat
