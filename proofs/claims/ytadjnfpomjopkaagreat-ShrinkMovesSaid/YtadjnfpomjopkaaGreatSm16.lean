/- bstep: find (printed by gen_bs1.py). -/
import Derived.Test.YtadjnfpomjopkaaGreatSm15

namespace Go.Proofs.YtadjnfpomjopkaaGreat
open Go.RowKit

theorem Blk.put4 {w : World} {b : Nat} {x0 x1 x2 x3 : Value} {t : TypeId} (h : Blk w b #[x0, x1, x2, x3] t) (a0 a1 a2 a3 : Value) : Blk ((((w.setCell ⟨b, 0, none⟩ a0).setCell ⟨b, 1, none⟩ a1).setCell ⟨b, 2, none⟩ a2).setCell ⟨b, 3, none⟩ a3) b #[a0, a1, a2, a3] t := (((h.store 0 a0).store 1 a1).store 2 a2).store 3 a3
theorem Blk.over4 {w : World} {b g : Nat} {cs : Array Value} {t : TypeId} (h : Blk w b cs t) (hne : b ≠ g) (a0 a1 a2 a3 : Value) : Blk ((((w.setCell ⟨g, 0, none⟩ a0).setCell ⟨g, 1, none⟩ a1).setCell ⟨g, 2, none⟩ a2).setCell ⟨g, 3, none⟩ a3) b cs t := (((h.other hne a0).other hne a1).other hne a2).other hne a3
theorem below_put4 {B : Nat} {w W : World} {g : Nat} (h : Below B w W) (hg : B ≤ g) (a0 a1 a2 a3 : Value) : Below B w ((((W.setCell ⟨g, 0, none⟩ a0).setCell ⟨g, 1, none⟩ a1).setCell ⟨g, 2, none⟩ a2).setCell ⟨g, 3, none⟩ a3) := (((h.setCell (p := ⟨g, 0, none⟩) hg a0).setCell (p := ⟨g, 1, none⟩) hg a1).setCell (p := ⟨g, 2, none⟩) hg a2).setCell (p := ⟨g, 3, none⟩) hg a3
/-- what is found of a sentry -/
def FindR (w' : World) (M : Mdl) (x : Bool × Int) (v : Value) : Prop :=
  match findS M x with
  | none => v = .tuple #[.agg #[.int .i64 0, .int .i64 0, .slice none 0 0, .int .i64 0], .bool false]
  | some (st, ev, c) => ∃ ai ki, RowE instE 7 w' (.slice ai c.length ki) c ∧ v = .tuple #[.agg #[.int .i64 st, .int .i64 ev, .slice ai c.length ki, .int .i64 (if x.1 = true then x.2 else -1)], .bool (inM st M.stages.length)]
theorem FindR.none {w' : World} {M : Mdl} {x : Bool × Int} (h : findS M x = none) : FindR w' M x (.tuple #[.agg #[.int .i64 0, .int .i64 0, .slice none 0 0, .int .i64 0], .bool false]) := by unfold FindR; rw [h]
theorem findS_mile {M : Mdl} {n : Nat} {x : Ml} (h : M.miles[n]? = some x) : findS M (true, (n : Int)) = some (x.stage, x.event, x.ifs) := by
  have hl := (List.getElem?_eq_some_iff.1 h).1
  unfold findS; rw [if_pos rfl, if_pos (inM_iff.2 ⟨Int.natCast_nonneg _, by omega⟩), Int.toNat_natCast, mlG_of h]
theorem findS_guard {M : Mdl} {n : Nat} {x : Gd} (h : M.guards[n]? = some x) : findS M (false, (n : Int)) = some (x.stage, x.event, x.ifs) := by
  have hl := (List.getElem?_eq_some_iff.1 h).1
  unfold findS; rw [if_neg (by simp), if_pos (inM_iff.2 ⟨Int.natCast_nonneg _, by omega⟩), Int.toNat_natCast, gdG_of h]
theorem findS_no {M : Mdl} {b : Bool} {n : Int} (h : ¬ (0 ≤ n ∧ n < ((if b = true then M.miles.length else M.guards.length : Nat) : Int))) : findS M (b, n) = none := by
  unfold findS
  cases b
  · rw [if_neg (by simp)] at h ⊢
    rw [inM_no h]; rfl
  · rw [if_pos rfl] at h ⊢
    rw [inM_no h]; rfl
theorem find_results {V : World} {b : Nat} {a0 a1 a2 a3 : Value} {t : Bool} {tmps : Array Value} (hb : Blk V b #[a0, a1, a2, a3] 133) (h4 : tmps[4]? = some (.pointer (some ⟨b, 0, none⟩))) (h5 : tmps[5]? = some (.bool t)) :
    (results Tryz.f86 tmps).run Tryz.prog V = .ok (.tuple #[.agg #[a0, a1, a2, a3], .bool t]) V := by
  have e0 := hb.cell (i := 0) rfl
  have e1 := hb.cell (i := 1) rfl
  have e2 := hb.cell (i := 2) rfl
  have e3 := hb.cell (i := 3) rfl
  simp [results, Tryz.results86, go_sem, e0, e1, e2, e3, h4, h5]
set_option maxRecDepth 100000 in
set_option maxHeartbeats 8000000 in
theorem findQ {w : World} {q : Mem} {M : Mdl} (hm : MdQ w q M) (x : Bool × Int) :
    Calls Tryz.prog 86 #[.agg (mdC q M), .agg #[.bool x.1, .int .i64 x.2]] w fun e w' => (∃ v, e = .returned v ∧ FindR w M x v) ∧ Below w.heap.size w w' := by
  obtain ⟨xb, xn⟩ := x
  dsimp only
  obtain ⟨W1, h1, HB1, HM, HF⟩ := boxM hm
  have HMW := Lib.hid hm
  obtain ⟨W2, h2, hb2, x2⟩ := box1 W1 #[.bool xb, .int .i64 xn] 118
  obtain ⟨W3, h3, hb3, x3⟩ := box1 W2 #[.int .i64 0, .int .i64 0, .slice none 0 0, .int .i64 0] 133
  obtain ⟨W4, h4, hb4, x4⟩ := box1 W3 #[.int .i64 0, .int .i64 0, .slice none 0 0, .int .i64 0] 133
  have hs2 : W2.heap.size = W1.heap.size + 1 := by rw [← h2]; simp
  have hs3 : W3.heap.size = W2.heap.size + 1 := by rw [← h3]; simp
  have hb24 := hb3.trans (hb4.mono hb3.size)
  have hb14 := hb2.trans (hb24.mono hb2.size)
  have HB := Lib.hid (HB1.out.trans (hb14.mono HB1.out.size))
  have HX := Lib.hid (And.intro (x2.keep hb24) (And.intro (x3.keep hb4) x4))
  have HSZ := Lib.hid (And.intro HB1.out.size (And.intro hs2 hs3))
  have HB14 := Lib.hid hb14
  have hmg := HM.out.guards.max
  have hmm := HM.out.miles.max
  unfold MdB at HF
  unfold mdC at h1 ⊢
  clear hm hb2 hb3 hb4 x2 x3 x4 hs2 hs3 hb24 hb14
  obtain ⟨c0, c1, c2, c3, c4, c5, c6, c7, c8, c9⟩ := HF.out _ HB14.out
  have y0 := HX.out.1.cell (i := 0) rfl
  have y1 := HX.out.1.cell (i := 1) rfl
  have r0 := HX.out.2.1.cell (i := 0) rfl
  have r1 := HX.out.2.1.cell (i := 1) rfl
  have r2 := HX.out.2.1.cell (i := 2) rfl
  have r3 := HX.out.2.1.cell (i := 3) rfl
  have r4 := HX.out.2.1.free 0
  have r5 := HX.out.2.1.free 1
  have r6 := HX.out.2.1.free 2
  have r7 := HX.out.2.1.free 3
  have s0 := HX.out.2.2.cell (i := 0) rfl
  have s1 := HX.out.2.2.cell (i := 1) rfl
  have s2 := HX.out.2.2.cell (i := 2) rfl
  have s3 := HX.out.2.2.cell (i := 3) rfl
  cases xb
  · rcases (show xn < 0 ∨ (M.guards.length : Int) ≤ xn ∨ (0 ≤ xn ∧ xn < (M.guards.length : Int)) by omega) with p | p | p
    · have HN : Hid (findS M (false, xn) = none) := findS_no (by simp; omega)
      have p1 : ¬ (0 : Int) ≤ xn := by omega
      clear p
      go_enter Tryz.func86, Tryz.ntmps86
      go_wp2
      have hp := HX.out.2.1.put4 (.int .i64 0) (.int .i64 0) (.slice none 0 0) (.int .i64 0)
      refine bodyPost_ret (v := .tuple #[.agg #[.int .i64 0, .int .i64 0, .slice none 0 0, .int .i64 0], .bool false]) (find_results hp rfl rfl) rfl ?_
      exact ⟨⟨_, rfl, .none HN.out⟩, below_put4 HB.out (by have := HSZ.out; omega) _ _ _ _⟩
    · have HN : Hid (findS M (false, xn) = none) := findS_no (by simp; omega)
      have p1 : (0 : Int) ≤ xn := by omega
      have p2 : ¬ xn < (M.guards.length : Int) := by omega
      clear p
      go_enter Tryz.func86, Tryz.ntmps86
      go_wp2
      have hp := HX.out.2.1.put4 (.int .i64 0) (.int .i64 0) (.slice none 0 0) (.int .i64 0)
      refine bodyPost_ret (v := .tuple #[.agg #[.int .i64 0, .int .i64 0, .slice none 0 0, .int .i64 0], .bool false]) (find_results hp rfl rfl) rfl ?_
      exact ⟨⟨_, rfl, .none HN.out⟩, below_put4 HB.out (by have := HSZ.out; omega) _ _ _ _⟩
    · obtain ⟨k, rfl⟩ : ∃ k : Nat, xn = (k : Int) := ⟨xn.toNat, by omega⟩
      have hk : k < M.guards.length := by omega
      have p1 := p.1
      have p2 := p.2
      clear p
      obtain ⟨x, hx⟩ : ∃ x, M.guards[k]? = some x := ⟨_, List.getElem?_eq_getElem hk⟩
      obtain ⟨b, off, cap, ai, ki, hv, hbl, hin, g0, g1, g2⟩ := guardRow HMW.out.guards hx
      simp only [Value.slice.injEq] at hv
      have ha := hv.1
      clear hv
      replace g0 := (HB.out.cell (p := ⟨b, off + k * 3, none⟩) hbl).trans g0
      replace g1 := (HB.out.cell (p := ⟨b, off + k * 3 + 1, none⟩) hbl).trans g1
      replace g2 := (HB.out.cell (p := ⟨b, off + k * 3 + 2, none⟩) hbl).trans g2
      obtain ⟨W5, h5, hb5, x5⟩ := box1 W4 #[.int .i64 x.stage, .int .i64 x.event, .slice ai x.ifs.length ki] 52
      rw [ha] at h1
      have HFS := Lib.hid (findS_guard hx)
      have HIN := Lib.hid hin
      have HB5 := Lib.hid hb5
      have z5 := x5
      have n0 := x5.cell (i := 0) rfl
      have n1 := x5.cell (i := 1) rfl
      have n2 := x5.cell (i := 2) rfl
      have t0 := (HX.out.2.2.keep hb5).free 0
      have t1 := (HX.out.2.2.keep hb5).free 1
      have t2 := (HX.out.2.2.keep hb5).free 2
      have t3 := (HX.out.2.2.keep hb5).free 3
      have m0 := (HX.out.2.2.keep hb5).cell (i := 0) rfl
      have m1 := (HX.out.2.2.keep hb5).cell (i := 1) rfl
      have m2 := (HX.out.2.2.keep hb5).cell (i := 2) rfl
      have m3 := (HX.out.2.2.keep hb5).cell (i := 3) rfl
      have y5 := (HX.out.1.keep hb5).cell (i := 1) rfl
      obtain ⟨W6, h6⟩ : ∃ W, (((W5.setCell ⟨W3.heap.size, 0, none⟩ (.int .i64 x.stage)).setCell ⟨W3.heap.size, 1, none⟩ (.int .i64 x.event)).setCell ⟨W3.heap.size, 2, none⟩ (.slice ai x.ifs.length ki)).setCell ⟨W3.heap.size, 3, none⟩ (.int .i64 (-1)) = W := ⟨_, rfl⟩
      have x6 := (HX.out.2.2.keep hb5).put4 (.int .i64 x.stage) (.int .i64 x.event) (.slice ai x.ifs.length ki) (.int .i64 (-1))
      rw [h6] at x6
      have v6 := (HX.out.2.1.keep hb5).over4 (g := W3.heap.size) (by have := HSZ.out; omega) (.int .i64 x.stage) (.int .i64 x.event) (.slice ai x.ifs.length ki) (.int .i64 (-1))
      rw [h6] at v6
      have hb6 := below_put4 (B := W3.heap.size) (Below.refl W3.heap.size W5) (Nat.le_refl _) (.int .i64 x.stage) (.int .i64 x.event) (.slice ai x.ifs.length ki) (.int .i64 (-1))
      rw [h6] at hb6
      have HX6 := Lib.hid (And.intro x6 (And.intro v6 hb6))
      have HSF : Hid (∀ V, Blk V W3.heap.size #[.int .i64 x.stage, .int .i64 x.event, .slice ai x.ifs.length ki, .int .i64 (-1)] 133 → Below W2.heap.size W6 V → MdB V w.heap.size q M ∧ V.cell? ⟨W3.heap.size, 0, none⟩ = some (.int .i64 x.stage) ∧ V.cell? ⟨W3.heap.size, 1, none⟩ = some (.int .i64 x.event) ∧ V.cell? ⟨W3.heap.size, 2, none⟩ = some (.slice ai x.ifs.length ki) ∧ V.cell? ⟨W3.heap.size, 3, none⟩ = some (.int .i64 (-1))) := fun V g1 g2 => ⟨HF.out V (((HB14.out.trans (hb5.mono (by have := HSZ.out; have := HB14.out.size; omega))).trans (hb6.mono (by have := HSZ.out; omega))).trans (g2.mono (by have := HSZ.out; omega))), g1.cell rfl, g1.cell rfl, g1.cell rfl, g1.cell rfl⟩
      clear hx hin hb5 x5 x6 v6 hb6
      go_enter Tryz.func86, Tryz.ntmps86
      go_wp2_with fail
      rcases (show x.stage < 0 ∨ (0 ≤ x.stage ∧ (M.stages.length : Int) ≤ x.stage) ∨ (0 ≤ x.stage ∧ x.stage < (M.stages.length : Int)) by omega) with p | p | p
      · have HIM : Hid (inM x.stage M.stages.length = false) := inM_no (by omega)
        have hd1 : decide ((0 : Int) ≤ x.stage) = false := decide_eq_false (by omega)
        clear p
        have hbz : Below W6.heap.size W6 W6.drew := (Below.refl _ _).drew
        have hsf := HSF.out _ HX6.out.1.drew (Below.refl _ _).drew
        refine startH (S := fun V => MdB V w.heap.size q M ∧ V.cell? ⟨W3.heap.size, 0, none⟩ = some (.int .i64 x.stage) ∧ V.cell? ⟨W3.heap.size, 1, none⟩ = some (.int .i64 x.event) ∧ V.cell? ⟨W3.heap.size, 2, none⟩ = some (.slice ai x.ifs.length ki) ∧ V.cell? ⟨W3.heap.size, 3, none⟩ = some (.int .i64 (-1))) (by kernel_rfl) hsf (fun hHeld => ?_)
        clear hsf
        have w0 := HX6.out.2.1.cell (i := 0) rfl
        have v0 := HX6.out.2.1.free 0
        have w1 := HX6.out.2.1.cell (i := 1) rfl
        have v1 := HX6.out.2.1.free 1
        have w2 := HX6.out.2.1.cell (i := 2) rfl
        have v2 := HX6.out.2.1.free 2
        have w3 := HX6.out.2.1.cell (i := 3) rfl
        have v3 := HX6.out.2.1.free 3
        refine takesH [0, 1, 2, 3, 4, 5, 6, 7, 8, 9, 10, 11] (by kernel_rfl) (fun _ _ d _ _ h => by cases d <;> exact h) (by kernel_rfl) (by kernel_rfl) (by assumption) ?_
        repeat (first
          | (refine TakeSeq.cons (v := ?_) rfl (by rfl) ?_ ?_
             rotate_left
             · ((intro w hSw; unfold MdB at hSw; go_simp) <;> (try with_reducible rfl))
             (try rw [hd1])
             (try go_simp))
          | (refine TakeSeq.skip rfl (by rfl) ?_; (try go_simp)))
        refine TakeSeq.nil ?_
        refine callH 12 (by kernel_rfl) (by kernel_rfl) rfl (by rfl) ?_
        intro K hK
        go_simp
        refine hK.out _ _ (HSF.out _ (HX6.out.1.drew.over4 (by have := HSZ.out; omega) _ _ _ _) (below_put4 ((Below.refl _ _).drew) (Nat.le_refl _) _ _ _ _)) (fun hHeld => ?_)
        clear hK K
        (try go_simp)
        refine takesH [13] (by kernel_rfl) (fun _ _ d _ _ h => by cases d <;> exact h) (by kernel_rfl) (by kernel_rfl) (by assumption) ?_
        repeat (first
          | (refine TakeSeq.cons (v := ?_) rfl (by rfl) ?_ ?_
             rotate_left
             · ((intro w hSw; unfold MdB at hSw; go_simp) <;> (try with_reducible rfl))
             (try rw [hd1])
             (try go_simp))
          | (refine TakeSeq.skip rfl (by rfl) ?_; (try go_simp)))
        refine TakeSeq.nil ?_
        refine doneH (by kernel_rfl) ?_
        go_wp2
        have hp := HX6.out.2.1.drew.put4 (.int .i64 x.stage) (.int .i64 x.event) (.slice ai x.ifs.length ki) (.int .i64 (-1))
        have hbf := below_put4 (B := w.heap.size) (g := W2.heap.size) (HB.out.trans ((HB5.out.mono HB.out.size).trans (HX6.out.2.2.mono (by have := HSZ.out; omega)))).drew (by have := HSZ.out; omega) (.int .i64 x.stage) (.int .i64 x.event) (.slice ai x.ifs.length ki) (.int .i64 (-1))
        refine bodyPost_ret (v := .tuple #[.agg #[.int .i64 x.stage, .int .i64 x.event, .slice ai x.ifs.length ki, .int .i64 (-1)], .bool false]) (find_results hp rfl rfl) rfl ?_
        refine ⟨⟨_, rfl, ?_⟩, hbf⟩
        unfold FindR
        rw [HFS.out]
        refine ⟨ai, ki, ?_, by rw [HIM.out]; rfl⟩
        exact HIN.out
      · have HIM : Hid (inM x.stage M.stages.length = false) := inM_no (by omega)
        have hd1 : decide ((0 : Int) ≤ x.stage) = true := decide_eq_true (by omega)
        have hd2 : decide (x.stage < (M.stages.length : Int)) = false := decide_eq_false (by omega)
        clear p
        have hbz : Below W6.heap.size W6 W6.drew := (Below.refl _ _).drew
        have hsf := HSF.out _ HX6.out.1.drew (Below.refl _ _).drew
        refine startH (S := fun V => MdB V w.heap.size q M ∧ V.cell? ⟨W3.heap.size, 0, none⟩ = some (.int .i64 x.stage) ∧ V.cell? ⟨W3.heap.size, 1, none⟩ = some (.int .i64 x.event) ∧ V.cell? ⟨W3.heap.size, 2, none⟩ = some (.slice ai x.ifs.length ki) ∧ V.cell? ⟨W3.heap.size, 3, none⟩ = some (.int .i64 (-1))) (by kernel_rfl) hsf (fun hHeld => ?_)
        clear hsf
        have w0 := HX6.out.2.1.cell (i := 0) rfl
        have v0 := HX6.out.2.1.free 0
        have w1 := HX6.out.2.1.cell (i := 1) rfl
        have v1 := HX6.out.2.1.free 1
        have w2 := HX6.out.2.1.cell (i := 2) rfl
        have v2 := HX6.out.2.1.free 2
        have w3 := HX6.out.2.1.cell (i := 3) rfl
        have v3 := HX6.out.2.1.free 3
        refine takesH [0, 1, 2, 3, 4, 5, 6, 7, 8, 9, 10, 11] (by kernel_rfl) (fun _ _ d _ _ h => by cases d <;> exact h) (by kernel_rfl) (by kernel_rfl) (by assumption) ?_
        repeat (first
          | (refine TakeSeq.cons (v := ?_) rfl (by rfl) ?_ ?_
             rotate_left
             · ((intro w hSw; unfold MdB at hSw; go_simp) <;> (try with_reducible rfl))
             (try rw [hd1])
             (try rw [hd2])
             (try go_simp))
          | (refine TakeSeq.skip rfl (by rfl) ?_; (try go_simp)))
        refine TakeSeq.nil ?_
        refine callH 12 (by kernel_rfl) (by kernel_rfl) rfl (by rfl) ?_
        intro K hK
        go_simp
        refine hK.out _ _ (HSF.out _ (HX6.out.1.drew.over4 (by have := HSZ.out; omega) _ _ _ _) (below_put4 ((Below.refl _ _).drew) (Nat.le_refl _) _ _ _ _)) (fun hHeld => ?_)
        clear hK K
        (try go_simp)
        refine takesH [13] (by kernel_rfl) (fun _ _ d _ _ h => by cases d <;> exact h) (by kernel_rfl) (by kernel_rfl) (by assumption) ?_
        repeat (first
          | (refine TakeSeq.cons (v := ?_) rfl (by rfl) ?_ ?_
             rotate_left
             · ((intro w hSw; unfold MdB at hSw; go_simp) <;> (try with_reducible rfl))
             (try rw [hd1])
             (try rw [hd2])
             (try go_simp))
          | (refine TakeSeq.skip rfl (by rfl) ?_; (try go_simp)))
        refine TakeSeq.nil ?_
        refine doneH (by kernel_rfl) ?_
        go_wp2
        have hp := HX6.out.2.1.drew.put4 (.int .i64 x.stage) (.int .i64 x.event) (.slice ai x.ifs.length ki) (.int .i64 (-1))
        have hbf := below_put4 (B := w.heap.size) (g := W2.heap.size) (HB.out.trans ((HB5.out.mono HB.out.size).trans (HX6.out.2.2.mono (by have := HSZ.out; omega)))).drew (by have := HSZ.out; omega) (.int .i64 x.stage) (.int .i64 x.event) (.slice ai x.ifs.length ki) (.int .i64 (-1))
        refine bodyPost_ret (v := .tuple #[.agg #[.int .i64 x.stage, .int .i64 x.event, .slice ai x.ifs.length ki, .int .i64 (-1)], .bool false]) (find_results hp rfl rfl) rfl ?_
        refine ⟨⟨_, rfl, ?_⟩, hbf⟩
        unfold FindR
        rw [HFS.out]
        refine ⟨ai, ki, ?_, by rw [HIM.out]; rfl⟩
        exact HIN.out
      · have HIM : Hid (inM x.stage M.stages.length = true) := inM_iff.2 p
        have hd1 : decide ((0 : Int) ≤ x.stage) = true := decide_eq_true (by omega)
        have hd2 : decide (x.stage < (M.stages.length : Int)) = true := decide_eq_true (by omega)
        clear p
        have hbz : Below W6.heap.size W6 W6.drew := (Below.refl _ _).drew
        have hsf := HSF.out _ HX6.out.1.drew (Below.refl _ _).drew
        refine startH (S := fun V => MdB V w.heap.size q M ∧ V.cell? ⟨W3.heap.size, 0, none⟩ = some (.int .i64 x.stage) ∧ V.cell? ⟨W3.heap.size, 1, none⟩ = some (.int .i64 x.event) ∧ V.cell? ⟨W3.heap.size, 2, none⟩ = some (.slice ai x.ifs.length ki) ∧ V.cell? ⟨W3.heap.size, 3, none⟩ = some (.int .i64 (-1))) (by kernel_rfl) hsf (fun hHeld => ?_)
        clear hsf
        have w0 := HX6.out.2.1.cell (i := 0) rfl
        have v0 := HX6.out.2.1.free 0
        have w1 := HX6.out.2.1.cell (i := 1) rfl
        have v1 := HX6.out.2.1.free 1
        have w2 := HX6.out.2.1.cell (i := 2) rfl
        have v2 := HX6.out.2.1.free 2
        have w3 := HX6.out.2.1.cell (i := 3) rfl
        have v3 := HX6.out.2.1.free 3
        refine takesH [0, 1, 2, 3, 4, 5, 6, 7, 8, 9, 10, 11] (by kernel_rfl) (fun _ _ d _ _ h => by cases d <;> exact h) (by kernel_rfl) (by kernel_rfl) (by assumption) ?_
        repeat (first
          | (refine TakeSeq.cons (v := ?_) rfl (by rfl) ?_ ?_
             rotate_left
             · ((intro w hSw; unfold MdB at hSw; go_simp) <;> (try with_reducible rfl))
             (try rw [hd1])
             (try rw [hd2])
             (try go_simp))
          | (refine TakeSeq.skip rfl (by rfl) ?_; (try go_simp)))
        refine TakeSeq.nil ?_
        refine callH 12 (by kernel_rfl) (by kernel_rfl) rfl (by rfl) ?_
        intro K hK
        go_simp
        refine hK.out _ _ (HSF.out _ (HX6.out.1.drew.over4 (by have := HSZ.out; omega) _ _ _ _) (below_put4 ((Below.refl _ _).drew) (Nat.le_refl _) _ _ _ _)) (fun hHeld => ?_)
        clear hK K
        (try go_simp)
        refine takesH [13] (by kernel_rfl) (fun _ _ d _ _ h => by cases d <;> exact h) (by kernel_rfl) (by kernel_rfl) (by assumption) ?_
        repeat (first
          | (refine TakeSeq.cons (v := ?_) rfl (by rfl) ?_ ?_
             rotate_left
             · ((intro w hSw; unfold MdB at hSw; go_simp) <;> (try with_reducible rfl))
             (try rw [hd1])
             (try rw [hd2])
             (try go_simp))
          | (refine TakeSeq.skip rfl (by rfl) ?_; (try go_simp)))
        refine TakeSeq.nil ?_
        refine doneH (by kernel_rfl) ?_
        go_wp2
        have hp := HX6.out.2.1.drew.put4 (.int .i64 x.stage) (.int .i64 x.event) (.slice ai x.ifs.length ki) (.int .i64 (-1))
        have hbf := below_put4 (B := w.heap.size) (g := W2.heap.size) (HB.out.trans ((HB5.out.mono HB.out.size).trans (HX6.out.2.2.mono (by have := HSZ.out; omega)))).drew (by have := HSZ.out; omega) (.int .i64 x.stage) (.int .i64 x.event) (.slice ai x.ifs.length ki) (.int .i64 (-1))
        refine bodyPost_ret (v := .tuple #[.agg #[.int .i64 x.stage, .int .i64 x.event, .slice ai x.ifs.length ki, .int .i64 (-1)], .bool true]) (find_results hp rfl rfl) rfl ?_
        refine ⟨⟨_, rfl, ?_⟩, hbf⟩
        unfold FindR
        rw [HFS.out]
        refine ⟨ai, ki, ?_, by rw [HIM.out]; rfl⟩
        exact HIN.out
  · rcases (show xn < 0 ∨ (M.miles.length : Int) ≤ xn ∨ (0 ≤ xn ∧ xn < (M.miles.length : Int)) by omega) with p | p | p
    · have HN : Hid (findS M (true, xn) = none) := findS_no (by simp; omega)
      have p1 : ¬ (0 : Int) ≤ xn := by omega
      clear p
      go_enter Tryz.func86, Tryz.ntmps86
      go_wp2
      have hp := HX.out.2.1.put4 (.int .i64 0) (.int .i64 0) (.slice none 0 0) (.int .i64 0)
      refine bodyPost_ret (v := .tuple #[.agg #[.int .i64 0, .int .i64 0, .slice none 0 0, .int .i64 0], .bool false]) (find_results hp rfl rfl) rfl ?_
      exact ⟨⟨_, rfl, .none HN.out⟩, below_put4 HB.out (by have := HSZ.out; omega) _ _ _ _⟩
    · have HN : Hid (findS M (true, xn) = none) := findS_no (by simp; omega)
      have p1 : (0 : Int) ≤ xn := by omega
      have p2 : ¬ xn < (M.miles.length : Int) := by omega
      clear p
      go_enter Tryz.func86, Tryz.ntmps86
      go_wp2
      have hp := HX.out.2.1.put4 (.int .i64 0) (.int .i64 0) (.slice none 0 0) (.int .i64 0)
      refine bodyPost_ret (v := .tuple #[.agg #[.int .i64 0, .int .i64 0, .slice none 0 0, .int .i64 0], .bool false]) (find_results hp rfl rfl) rfl ?_
      exact ⟨⟨_, rfl, .none HN.out⟩, below_put4 HB.out (by have := HSZ.out; omega) _ _ _ _⟩
    · obtain ⟨k, rfl⟩ : ∃ k : Nat, xn = (k : Int) := ⟨xn.toNat, by omega⟩
      have hk : k < M.miles.length := by omega
      have p1 := p.1
      have p2 := p.2
      clear p
      obtain ⟨x, hx⟩ : ∃ x, M.miles[k]? = some x := ⟨_, List.getElem?_eq_getElem hk⟩
      obtain ⟨b, off, cap, ai, ki, hv, hbl, hin, g0, g1, g2, g3, g4⟩ := mileRow HMW.out.miles hx
      simp only [Value.slice.injEq] at hv
      have ha := hv.1
      clear hv
      replace g0 := (HB.out.cell (p := ⟨b, off + k * 5, none⟩) hbl).trans g0
      replace g1 := (HB.out.cell (p := ⟨b, off + k * 5 + 1, none⟩) hbl).trans g1
      replace g2 := (HB.out.cell (p := ⟨b, off + k * 5 + 2, none⟩) hbl).trans g2
      replace g3 := (HB.out.cell (p := ⟨b, off + k * 5 + 3, none⟩) hbl).trans g3
      replace g4 := (HB.out.cell (p := ⟨b, off + k * 5 + 4, none⟩) hbl).trans g4
      obtain ⟨W5, h5, hb5, x5⟩ := box1 W4 #[.string x.name, .int .i64 x.stage, .int .i64 x.event, .slice ai x.ifs.length ki, .bool x.final] 54
      rw [ha] at h1
      have HFS := Lib.hid (findS_mile hx)
      have HIN := Lib.hid hin
      have HB5 := Lib.hid hb5
      have z5 := x5
      have n1 := x5.cell (i := 1) rfl
      have n2 := x5.cell (i := 2) rfl
      have n3 := x5.cell (i := 3) rfl
      have t0 := (HX.out.2.2.keep hb5).free 0
      have t1 := (HX.out.2.2.keep hb5).free 1
      have t2 := (HX.out.2.2.keep hb5).free 2
      have t3 := (HX.out.2.2.keep hb5).free 3
      have m0 := (HX.out.2.2.keep hb5).cell (i := 0) rfl
      have m1 := (HX.out.2.2.keep hb5).cell (i := 1) rfl
      have m2 := (HX.out.2.2.keep hb5).cell (i := 2) rfl
      have m3 := (HX.out.2.2.keep hb5).cell (i := 3) rfl
      have y5 := (HX.out.1.keep hb5).cell (i := 1) rfl
      obtain ⟨W6, h6⟩ : ∃ W, (((W5.setCell ⟨W3.heap.size, 0, none⟩ (.int .i64 x.stage)).setCell ⟨W3.heap.size, 1, none⟩ (.int .i64 x.event)).setCell ⟨W3.heap.size, 2, none⟩ (.slice ai x.ifs.length ki)).setCell ⟨W3.heap.size, 3, none⟩ (.int .i64 (k : Int)) = W := ⟨_, rfl⟩
      have x6 := (HX.out.2.2.keep hb5).put4 (.int .i64 x.stage) (.int .i64 x.event) (.slice ai x.ifs.length ki) (.int .i64 (k : Int))
      rw [h6] at x6
      have v6 := (HX.out.2.1.keep hb5).over4 (g := W3.heap.size) (by have := HSZ.out; omega) (.int .i64 x.stage) (.int .i64 x.event) (.slice ai x.ifs.length ki) (.int .i64 (k : Int))
      rw [h6] at v6
      have hb6 := below_put4 (B := W3.heap.size) (Below.refl W3.heap.size W5) (Nat.le_refl _) (.int .i64 x.stage) (.int .i64 x.event) (.slice ai x.ifs.length ki) (.int .i64 (k : Int))
      rw [h6] at hb6
      have HX6 := Lib.hid (And.intro x6 (And.intro v6 hb6))
      have HSF : Hid (∀ V, Blk V W3.heap.size #[.int .i64 x.stage, .int .i64 x.event, .slice ai x.ifs.length ki, .int .i64 (k : Int)] 133 → Below W2.heap.size W6 V → MdB V w.heap.size q M ∧ V.cell? ⟨W3.heap.size, 0, none⟩ = some (.int .i64 x.stage) ∧ V.cell? ⟨W3.heap.size, 1, none⟩ = some (.int .i64 x.event) ∧ V.cell? ⟨W3.heap.size, 2, none⟩ = some (.slice ai x.ifs.length ki) ∧ V.cell? ⟨W3.heap.size, 3, none⟩ = some (.int .i64 (k : Int))) := fun V g1 g2 => ⟨HF.out V (((HB14.out.trans (hb5.mono (by have := HSZ.out; have := HB14.out.size; omega))).trans (hb6.mono (by have := HSZ.out; omega))).trans (g2.mono (by have := HSZ.out; omega))), g1.cell rfl, g1.cell rfl, g1.cell rfl, g1.cell rfl⟩
      clear hx hin hb5 x5 x6 v6 hb6
      go_enter Tryz.func86, Tryz.ntmps86
      go_wp2_with fail
      rcases (show x.stage < 0 ∨ (0 ≤ x.stage ∧ (M.stages.length : Int) ≤ x.stage) ∨ (0 ≤ x.stage ∧ x.stage < (M.stages.length : Int)) by omega) with p | p | p
      · have HIM : Hid (inM x.stage M.stages.length = false) := inM_no (by omega)
        have hd1 : decide ((0 : Int) ≤ x.stage) = false := decide_eq_false (by omega)
        clear p
        have hbz : Below W6.heap.size W6 W6.drew := (Below.refl _ _).drew
        have hsf := HSF.out _ HX6.out.1.drew (Below.refl _ _).drew
        refine startH (S := fun V => MdB V w.heap.size q M ∧ V.cell? ⟨W3.heap.size, 0, none⟩ = some (.int .i64 x.stage) ∧ V.cell? ⟨W3.heap.size, 1, none⟩ = some (.int .i64 x.event) ∧ V.cell? ⟨W3.heap.size, 2, none⟩ = some (.slice ai x.ifs.length ki) ∧ V.cell? ⟨W3.heap.size, 3, none⟩ = some (.int .i64 (k : Int))) (by kernel_rfl) hsf (fun hHeld => ?_)
        clear hsf
        have w0 := HX6.out.2.1.cell (i := 0) rfl
        have v0 := HX6.out.2.1.free 0
        have w1 := HX6.out.2.1.cell (i := 1) rfl
        have v1 := HX6.out.2.1.free 1
        have w2 := HX6.out.2.1.cell (i := 2) rfl
        have v2 := HX6.out.2.1.free 2
        have w3 := HX6.out.2.1.cell (i := 3) rfl
        have v3 := HX6.out.2.1.free 3
        refine takesH [0, 1, 2, 3, 4, 5, 6, 7, 8, 9, 10, 11] (by kernel_rfl) (fun _ _ d _ _ h => by cases d <;> exact h) (by kernel_rfl) (by kernel_rfl) (by assumption) ?_
        repeat (first
          | (refine TakeSeq.cons (v := ?_) rfl (by rfl) ?_ ?_
             rotate_left
             · ((intro w hSw; unfold MdB at hSw; go_simp) <;> (try with_reducible rfl))
             (try rw [hd1])
             (try go_simp))
          | (refine TakeSeq.skip rfl (by rfl) ?_; (try go_simp)))
        refine TakeSeq.nil ?_
        refine callH 12 (by kernel_rfl) (by kernel_rfl) rfl (by rfl) ?_
        intro K hK
        go_simp
        refine hK.out _ _ (HSF.out _ (HX6.out.1.drew.over4 (by have := HSZ.out; omega) _ _ _ _) (below_put4 ((Below.refl _ _).drew) (Nat.le_refl _) _ _ _ _)) (fun hHeld => ?_)
        clear hK K
        (try go_simp)
        refine takesH [13] (by kernel_rfl) (fun _ _ d _ _ h => by cases d <;> exact h) (by kernel_rfl) (by kernel_rfl) (by assumption) ?_
        repeat (first
          | (refine TakeSeq.cons (v := ?_) rfl (by rfl) ?_ ?_
             rotate_left
             · ((intro w hSw; unfold MdB at hSw; go_simp) <;> (try with_reducible rfl))
             (try rw [hd1])
             (try go_simp))
          | (refine TakeSeq.skip rfl (by rfl) ?_; (try go_simp)))
        refine TakeSeq.nil ?_
        refine doneH (by kernel_rfl) ?_
        go_wp2
        have hp := HX6.out.2.1.drew.put4 (.int .i64 x.stage) (.int .i64 x.event) (.slice ai x.ifs.length ki) (.int .i64 (k : Int))
        have hbf := below_put4 (B := w.heap.size) (g := W2.heap.size) (HB.out.trans ((HB5.out.mono HB.out.size).trans (HX6.out.2.2.mono (by have := HSZ.out; omega)))).drew (by have := HSZ.out; omega) (.int .i64 x.stage) (.int .i64 x.event) (.slice ai x.ifs.length ki) (.int .i64 (k : Int))
        refine bodyPost_ret (v := .tuple #[.agg #[.int .i64 x.stage, .int .i64 x.event, .slice ai x.ifs.length ki, .int .i64 (k : Int)], .bool false]) (find_results hp rfl rfl) rfl ?_
        refine ⟨⟨_, rfl, ?_⟩, hbf⟩
        unfold FindR
        rw [HFS.out]
        refine ⟨ai, ki, ?_, by rw [HIM.out]; rfl⟩
        exact HIN.out
      · have HIM : Hid (inM x.stage M.stages.length = false) := inM_no (by omega)
        have hd1 : decide ((0 : Int) ≤ x.stage) = true := decide_eq_true (by omega)
        have hd2 : decide (x.stage < (M.stages.length : Int)) = false := decide_eq_false (by omega)
        clear p
        have hbz : Below W6.heap.size W6 W6.drew := (Below.refl _ _).drew
        have hsf := HSF.out _ HX6.out.1.drew (Below.refl _ _).drew
        refine startH (S := fun V => MdB V w.heap.size q M ∧ V.cell? ⟨W3.heap.size, 0, none⟩ = some (.int .i64 x.stage) ∧ V.cell? ⟨W3.heap.size, 1, none⟩ = some (.int .i64 x.event) ∧ V.cell? ⟨W3.heap.size, 2, none⟩ = some (.slice ai x.ifs.length ki) ∧ V.cell? ⟨W3.heap.size, 3, none⟩ = some (.int .i64 (k : Int))) (by kernel_rfl) hsf (fun hHeld => ?_)
        clear hsf
        have w0 := HX6.out.2.1.cell (i := 0) rfl
        have v0 := HX6.out.2.1.free 0
        have w1 := HX6.out.2.1.cell (i := 1) rfl
        have v1 := HX6.out.2.1.free 1
        have w2 := HX6.out.2.1.cell (i := 2) rfl
        have v2 := HX6.out.2.1.free 2
        have w3 := HX6.out.2.1.cell (i := 3) rfl
        have v3 := HX6.out.2.1.free 3
        refine takesH [0, 1, 2, 3, 4, 5, 6, 7, 8, 9, 10, 11] (by kernel_rfl) (fun _ _ d _ _ h => by cases d <;> exact h) (by kernel_rfl) (by kernel_rfl) (by assumption) ?_
        repeat (first
          | (refine TakeSeq.cons (v := ?_) rfl (by rfl) ?_ ?_
             rotate_left
             · ((intro w hSw; unfold MdB at hSw; go_simp) <;> (try with_reducible rfl))
             (try rw [hd1])
             (try rw [hd2])
             (try go_simp))
          | (refine TakeSeq.skip rfl (by rfl) ?_; (try go_simp)))
        refine TakeSeq.nil ?_
        refine callH 12 (by kernel_rfl) (by kernel_rfl) rfl (by rfl) ?_
        intro K hK
        go_simp
        refine hK.out _ _ (HSF.out _ (HX6.out.1.drew.over4 (by have := HSZ.out; omega) _ _ _ _) (below_put4 ((Below.refl _ _).drew) (Nat.le_refl _) _ _ _ _)) (fun hHeld => ?_)
        clear hK K
        (try go_simp)
        refine takesH [13] (by kernel_rfl) (fun _ _ d _ _ h => by cases d <;> exact h) (by kernel_rfl) (by kernel_rfl) (by assumption) ?_
        repeat (first
          | (refine TakeSeq.cons (v := ?_) rfl (by rfl) ?_ ?_
             rotate_left
             · ((intro w hSw; unfold MdB at hSw; go_simp) <;> (try with_reducible rfl))
             (try rw [hd1])
             (try rw [hd2])
             (try go_simp))
          | (refine TakeSeq.skip rfl (by rfl) ?_; (try go_simp)))
        refine TakeSeq.nil ?_
        refine doneH (by kernel_rfl) ?_
        go_wp2
        have hp := HX6.out.2.1.drew.put4 (.int .i64 x.stage) (.int .i64 x.event) (.slice ai x.ifs.length ki) (.int .i64 (k : Int))
        have hbf := below_put4 (B := w.heap.size) (g := W2.heap.size) (HB.out.trans ((HB5.out.mono HB.out.size).trans (HX6.out.2.2.mono (by have := HSZ.out; omega)))).drew (by have := HSZ.out; omega) (.int .i64 x.stage) (.int .i64 x.event) (.slice ai x.ifs.length ki) (.int .i64 (k : Int))
        refine bodyPost_ret (v := .tuple #[.agg #[.int .i64 x.stage, .int .i64 x.event, .slice ai x.ifs.length ki, .int .i64 (k : Int)], .bool false]) (find_results hp rfl rfl) rfl ?_
        refine ⟨⟨_, rfl, ?_⟩, hbf⟩
        unfold FindR
        rw [HFS.out]
        refine ⟨ai, ki, ?_, by rw [HIM.out]; rfl⟩
        exact HIN.out
      · have HIM : Hid (inM x.stage M.stages.length = true) := inM_iff.2 p
        have hd1 : decide ((0 : Int) ≤ x.stage) = true := decide_eq_true (by omega)
        have hd2 : decide (x.stage < (M.stages.length : Int)) = true := decide_eq_true (by omega)
        clear p
        have hbz : Below W6.heap.size W6 W6.drew := (Below.refl _ _).drew
        have hsf := HSF.out _ HX6.out.1.drew (Below.refl _ _).drew
        refine startH (S := fun V => MdB V w.heap.size q M ∧ V.cell? ⟨W3.heap.size, 0, none⟩ = some (.int .i64 x.stage) ∧ V.cell? ⟨W3.heap.size, 1, none⟩ = some (.int .i64 x.event) ∧ V.cell? ⟨W3.heap.size, 2, none⟩ = some (.slice ai x.ifs.length ki) ∧ V.cell? ⟨W3.heap.size, 3, none⟩ = some (.int .i64 (k : Int))) (by kernel_rfl) hsf (fun hHeld => ?_)
        clear hsf
        have w0 := HX6.out.2.1.cell (i := 0) rfl
        have v0 := HX6.out.2.1.free 0
        have w1 := HX6.out.2.1.cell (i := 1) rfl
        have v1 := HX6.out.2.1.free 1
        have w2 := HX6.out.2.1.cell (i := 2) rfl
        have v2 := HX6.out.2.1.free 2
        have w3 := HX6.out.2.1.cell (i := 3) rfl
        have v3 := HX6.out.2.1.free 3
        refine takesH [0, 1, 2, 3, 4, 5, 6, 7, 8, 9, 10, 11] (by kernel_rfl) (fun _ _ d _ _ h => by cases d <;> exact h) (by kernel_rfl) (by kernel_rfl) (by assumption) ?_
        repeat (first
          | (refine TakeSeq.cons (v := ?_) rfl (by rfl) ?_ ?_
             rotate_left
             · ((intro w hSw; unfold MdB at hSw; go_simp) <;> (try with_reducible rfl))
             (try rw [hd1])
             (try rw [hd2])
             (try go_simp))
          | (refine TakeSeq.skip rfl (by rfl) ?_; (try go_simp)))
        refine TakeSeq.nil ?_
        refine callH 12 (by kernel_rfl) (by kernel_rfl) rfl (by rfl) ?_
        intro K hK
        go_simp
        refine hK.out _ _ (HSF.out _ (HX6.out.1.drew.over4 (by have := HSZ.out; omega) _ _ _ _) (below_put4 ((Below.refl _ _).drew) (Nat.le_refl _) _ _ _ _)) (fun hHeld => ?_)
        clear hK K
        (try go_simp)
        refine takesH [13] (by kernel_rfl) (fun _ _ d _ _ h => by cases d <;> exact h) (by kernel_rfl) (by kernel_rfl) (by assumption) ?_
        repeat (first
          | (refine TakeSeq.cons (v := ?_) rfl (by rfl) ?_ ?_
             rotate_left
             · ((intro w hSw; unfold MdB at hSw; go_simp) <;> (try with_reducible rfl))
             (try rw [hd1])
             (try rw [hd2])
             (try go_simp))
          | (refine TakeSeq.skip rfl (by rfl) ?_; (try go_simp)))
        refine TakeSeq.nil ?_
        refine doneH (by kernel_rfl) ?_
        go_wp2
        have hp := HX6.out.2.1.drew.put4 (.int .i64 x.stage) (.int .i64 x.event) (.slice ai x.ifs.length ki) (.int .i64 (k : Int))
        have hbf := below_put4 (B := w.heap.size) (g := W2.heap.size) (HB.out.trans ((HB5.out.mono HB.out.size).trans (HX6.out.2.2.mono (by have := HSZ.out; omega)))).drew (by have := HSZ.out; omega) (.int .i64 x.stage) (.int .i64 x.event) (.slice ai x.ifs.length ki) (.int .i64 (k : Int))
        refine bodyPost_ret (v := .tuple #[.agg #[.int .i64 x.stage, .int .i64 x.event, .slice ai x.ifs.length ki, .int .i64 (k : Int)], .bool true]) (find_results hp rfl rfl) rfl ?_
        refine ⟨⟨_, rfl, ?_⟩, hbf⟩
        unfold FindR
        rw [HFS.out]
        refine ⟨ai, ki, ?_, by rw [HIM.out]; rfl⟩
        exact HIN.out
end Go.Proofs.YtadjnfpomjopkaaGreat
