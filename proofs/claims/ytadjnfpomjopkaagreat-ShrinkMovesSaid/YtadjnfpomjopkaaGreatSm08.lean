/- eval: the asker: step at comparisons (printed by gen_ev3.py). -/
import Derived.Test.YtadjnfpomjopkaaGreatSm07
import Derived.Deep.RegionHeld3

namespace Go.Proofs.YtadjnfpomjopkaaGreat
open Go.RowKit

set_option maxRecDepth 100000 in
set_option maxHeartbeats 4000000 in
theorem astep_c3 {wb w : World} {b sb : Nat} {v0 v3 v4 : Value} {s : Sta} {R : List Bool} (h : AkW wb w b sb v0 v3 v4 s R) (hl : R.length ≤ 900) (x : Ins) (hx : x.op = 3) :
    Calls Tryz.prog 113 #[.pointer (some ⟨b, 0, none⟩), insV x] w (StepPost wb.heap.size w b v0 (.int .i64 s.opn) (.int .i64 s.dne) v3 v4 (lessF sb) (askS s x R)) := by
  unfold insV
  obtain ⟨W1, hW1⟩ : ∃ W1, w.alloc (.cells #[.int .i64 x.op, .int .i64 x.l.1, .int .i64 x.l.2, .int .i64 x.r.1, .int .i64 x.r.2, .int .i64 x.n, .int .i64 x.user] 37) = W1 := ⟨_, rfl⟩
  have hb1 : Below w.heap.size w W1 := by rw [← hW1]; exact (Below.refl _ w).alloc (Nat.le_refl _) _
  have hbw : Below wb.heap.size wb W1 := h.low.trans (hb1.mono h.low.size)
  have x1 : Blk W1 w.heap.size #[.int .i64 x.op, .int .i64 x.l.1, .int .i64 x.l.2, .int .i64 x.r.1, .int .i64 x.r.2, .int .i64 x.n, .int .i64 x.user] 37 := by rw [← hW1]; exact Blk.new _ _ _
  have hak : AkB wb.heap.size W1 b v0 (.int .i64 s.opn) (.int .i64 s.dne) v3 v4 (lessF sb) R := h.ak.keep hb1
  have hbb : b < w.heap.size := by obtain ⟨_, hb, _⟩ := h.ak; exact hb.lt
  have HB1 := Lib.hid (hb1.mono h.low.size)
  have HO1 := Lib.hid (OthK.of_below (b := b) hb1)
  have HP : Hid (∀ (W : World) (t : Bool) (Q : List Bool), Below wb.heap.size w W → OthK w W b → AkB wb.heap.size W b v0 (.int .i64 s.opn) (.int .i64 s.dne) v3 v4 (lessF sb) Q → Q.length ≤ 902 → Calls Tryz.prog 119 #[.pointer (some ⟨b, 0, none⟩), .bool t] W fun e w' => AkPost wb.heap.size w b v0 (.int .i64 s.opn) (.int .i64 s.dne) v3 v4 (lessF sb) (t :: Q) (.tuple #[]) e w' ∧ OthK W w' b) := by
    intro W t Q hW hO hA hQ
    refine (apush_any hA (by omega) t).mono ?_
    rintro e w' ⟨he, ha, hB, hO2⟩
    exact ⟨⟨he, ha, hW.trans hB, hO.trans hO2⟩, hO2⟩
  have HSE : Hid (∀ (W : World) (Q : List Bool), AkB wb.heap.size W b v0 (.int .i64 s.opn) (.int .i64 s.dne) v3 v4 (lessF sb) Q → OthK W1 W b → W.cell? ⟨b, 1, none⟩ = some (.int .i64 s.opn) ∧ W.cell? ⟨b, 2, none⟩ = some (.int .i64 s.dne) ∧ W.cell? ⟨b, 5, none⟩ = some (.func (.func 99) #[] #[.pointer (some ⟨sb, 0, none⟩)]) ∧ W.cell? ⟨w.heap.size, 0, none⟩ = some (.int .i64 x.op) ∧ (W.cell? ⟨w.heap.size, 1, none⟩ = some (.int .i64 x.l.1) ∧ W.cell? ⟨w.heap.size, 2, none⟩ = some (.int .i64 x.l.2) ∧ W.cell? ⟨w.heap.size, 3, none⟩ = some (.int .i64 x.r.1) ∧ W.cell? ⟨w.heap.size, 4, none⟩ = some (.int .i64 x.r.2)) ∧ W.cell? ⟨w.heap.size, 5, none⟩ = some (.int .i64 x.n)) := by
    intro W Q hA hO
    obtain ⟨rv, y, _, _⟩ := hA
    have y1 := hO _ _ _ (by omega) (by decide) x1
    exact ⟨y.cell rfl, y.cell rfl, y.cell rfl, y1.cell rfl, ⟨y1.cell rfl, y1.cell rfl, y1.cell rfl, y1.cell rfl⟩, y1.cell rfl⟩
  have HSF : Hid (∀ W, Below W1.heap.size W1 W → W.cell? ⟨b, 1, none⟩ = some (.int .i64 s.opn) ∧ W.cell? ⟨b, 2, none⟩ = some (.int .i64 s.dne) ∧ W.cell? ⟨b, 5, none⟩ = some (.func (.func 99) #[] #[.pointer (some ⟨sb, 0, none⟩)]) ∧ W.cell? ⟨w.heap.size, 0, none⟩ = some (.int .i64 x.op) ∧ (W.cell? ⟨w.heap.size, 1, none⟩ = some (.int .i64 x.l.1) ∧ W.cell? ⟨w.heap.size, 2, none⟩ = some (.int .i64 x.l.2) ∧ W.cell? ⟨w.heap.size, 3, none⟩ = some (.int .i64 x.r.1) ∧ W.cell? ⟨w.heap.size, 4, none⟩ = some (.int .i64 x.r.2)) ∧ W.cell? ⟨w.heap.size, 5, none⟩ = some (.int .i64 x.n)) := fun W hW => HSE.out W _ (hak.keep hW) (OthK.of_below hW)
  have HLESS : Hid (∀ W, Below W1.heap.size W1 W → Calls Tryz.prog 99 #[.agg #[.int .i64 x.l.1, .int .i64 x.l.2], .agg #[.int .i64 x.r.1, .int .i64 x.r.2], .pointer (some ⟨sb, 0, none⟩)] W (OrLost W (if (thereV s x.l && thereV s x.r) = true then some (.int .i64 (cmpI (valV s x.l) (valV s x.r))) else none))) := by
    intro W hW
    have q := hbw.trans (hW.mono hbw.size)
    exact less_any (h.st.below q) (h.box.keep q) x.l x.r
  have HAK := Lib.hid hak
  have HBW := Lib.hid hbw.size
  obtain ⟨d1, d2, d5, c0, ⟨c1, c2, c3, c4⟩, c5⟩ := HSF.out _ (Below.refl _ _)
  clear h hbw hak hb1 x1 hbb
  have HE : Hid (askS s x R = if (thereV s x.l && thereV s x.r) = true then some (soB 3 (cmpI (valV s x.l) (valV s x.r)) :: R) else none) := by
    unfold Hid askS atomI
    rw [if_neg (by omega), if_neg (by omega), if_neg (by omega), if_neg (by omega), if_pos (by omega), soB_cmp, hx]
    cases (thereV s x.l && thereV s x.r) <;> rfl
  rw [HE.out]
  rw [hx] at c0 hW1 HSE HSF
  rw [hx]
  clear HE
  cases hth : (thereV s x.l && thereV s x.r)
  · rw [hth, if_neg (by decide)] at HLESS
    rw [if_neg (by decide)]
    clear hth HP HSE
    go_enter Tryz.func113, Tryz.ntmps113
    go_wp2_with fail
    refine wp_region_held_drew (S := (fun W => W.cell? ⟨b, 1, none⟩ = some (.int .i64 s.opn) ∧ W.cell? ⟨b, 2, none⟩ = some (.int .i64 s.dne) ∧ W.cell? ⟨b, 5, none⟩ = some (.func (.func 99) #[] #[.pointer (some ⟨sb, 0, none⟩)]) ∧ W.cell? ⟨w.heap.size, 0, none⟩ = some (.int .i64 3) ∧ (W.cell? ⟨w.heap.size, 1, none⟩ = some (.int .i64 x.l.1) ∧ W.cell? ⟨w.heap.size, 2, none⟩ = some (.int .i64 x.l.2) ∧ W.cell? ⟨w.heap.size, 3, none⟩ = some (.int .i64 x.r.1) ∧ W.cell? ⟨w.heap.size, 4, none⟩ = some (.int .i64 x.r.2)) ∧ W.cell? ⟨w.heap.size, 5, none⟩ = some (.int .i64 x.n))) (by kernel_rfl) ?_ (fun hHeld => ?_)
    · exact HSF.out _ ((Below.refl _ _).drew)
    refine wpAnyH_take (i := 0) (v := ?vd0) rfl (by kernel_rfl) (by kernel_rfl) (by kernel_rfl) (fun _ _ _ h => h) (Or.inl ⟨by rfl, ?yd0⟩) (by assumption) ?rd0
    case yd0 => ((intro w hSw; (try dsimp only at hSw); go_simp) <;> (try with_reducible rfl))
    (try go_simp)
    refine wpAnyH_take (i := 1) (v := ?vd1) rfl (by kernel_rfl) (by kernel_rfl) (by kernel_rfl) (fun _ _ _ h => h) (Or.inl ⟨by rfl, ?yd1⟩) (by assumption) ?rd1
    case yd1 => ((intro w hSw; (try dsimp only at hSw); go_simp) <;> (try with_reducible rfl))
    (try go_simp)
    refine wpAnyH_take (i := 2) (v := ?vd2) rfl (by kernel_rfl) (by kernel_rfl) (by kernel_rfl) (fun _ _ _ h => h) (Or.inl ⟨by rfl, ?yd2⟩) (by assumption) ?rd2
    case yd2 => ((intro w hSw; (try dsimp only at hSw); go_simp) <;> (try with_reducible rfl))
    (try go_simp)
    refine wpAnyH_take (i := 3) (v := ?vd3) rfl (by kernel_rfl) (by kernel_rfl) (by kernel_rfl) (fun _ _ _ h => h) (Or.inl ⟨by rfl, ?yd3⟩) (by assumption) ?rd3
    case yd3 => ((intro w hSw; (try dsimp only at hSw); go_simp) <;> (try with_reducible rfl))
    (try go_simp)
    refine wpAnyH_take (i := 4) (v := ?vd4) rfl (by kernel_rfl) (by kernel_rfl) (by kernel_rfl) (fun _ _ _ h => h) (Or.inl ⟨by rfl, ?yd4⟩) (by assumption) ?rd4
    case yd4 => ((intro w hSw; (try dsimp only at hSw); go_simp) <;> (try with_reducible rfl))
    (try go_simp)
    refine wpAnyH_take (i := 5) (v := ?vd5) rfl (by kernel_rfl) (by kernel_rfl) (by kernel_rfl) (fun _ _ _ h => h) (Or.inl ⟨by rfl, ?yd5⟩) (by assumption) ?rd5
    case yd5 => ((intro w hSw; (try dsimp only at hSw); go_simp) <;> (try with_reducible rfl))
    (try go_simp)
    refine wpAnyH_take (i := 6) (v := ?vd6) rfl (by kernel_rfl) (by kernel_rfl) (by kernel_rfl) (fun _ _ _ h => h) (Or.inl ⟨by rfl, ?yd6⟩) (by assumption) ?rd6
    case yd6 => ((intro w hSw; (try dsimp only at hSw); go_simp) <;> (try with_reducible rfl))
    (try go_simp)
    refine wpAnyH_take (i := 7) (v := ?vd7) rfl (by kernel_rfl) (by kernel_rfl) (by kernel_rfl) (fun _ _ _ h => h) (Or.inl ⟨by rfl, ?yd7⟩) (by assumption) ?rd7
    case yd7 => ((intro w hSw; (try dsimp only at hSw); go_simp) <;> (try with_reducible rfl))
    (try go_simp)
    refine wpAnyH_take (i := 8) (v := ?vd8) rfl (by kernel_rfl) (by kernel_rfl) (by kernel_rfl) (fun _ _ _ h => h) (Or.inl ⟨by rfl, ?yd8⟩) (by assumption) ?rd8
    case yd8 => ((intro w hSw; (try dsimp only at hSw); go_simp) <;> (try with_reducible rfl))
    (try go_simp)
    refine wpAnyH_take (i := 9) (v := ?vd9) rfl (by kernel_rfl) (by kernel_rfl) (by kernel_rfl) (fun _ _ _ h => h) (Or.inl ⟨by rfl, ?yd9⟩) (by assumption) ?rd9
    case yd9 => ((intro w hSw; (try dsimp only at hSw); go_simp) <;> (try with_reducible rfl))
    (try go_simp)
    refine wpAnyH_take (i := 10) (v := ?vd10) rfl (by kernel_rfl) (by kernel_rfl) (by kernel_rfl) (fun _ _ _ h => h) (Or.inl ⟨by rfl, ?yd10⟩) (by assumption) ?rd10
    case yd10 => ((intro w hSw; (try dsimp only at hSw); go_simp) <;> (try with_reducible rfl))
    (try go_simp)
    refine wpAnyH_ready (rs := [11]) (by kernel_rfl) (by simp) ?_
    refine AllReadyH.cons rfl (fun K hK => ?_) AllReadyH.nil
    go_simp
    go_at_call 99
    refine (HLESS.out _ ((Below.refl _ _).drew)).mono ?_
    rintro e w7 ⟨rfl, hb7⟩
    have hbz := (Below.refl W1.heap.size W1).drew.trans (hb7.mono (Nat.le_refl _))
    exact ⟨rfl, rfl, HB1.out.trans (hbz.mono HBW.out), HO1.out.trans (OthK.of_below hbz)⟩
  · rw [hth, if_pos rfl] at HLESS
    rw [if_pos rfl]
    clear hth
    go_enter Tryz.func113, Tryz.ntmps113
    go_wp2_with fail
    have hbz : Below W1.heap.size W1 W1.drew := (Below.refl _ _).drew
    first
    | (go_region_held3 (fun W => W.cell? ⟨b, 1, none⟩ = some (.int .i64 s.opn) ∧ W.cell? ⟨b, 2, none⟩ = some (.int .i64 s.dne) ∧ W.cell? ⟨b, 5, none⟩ = some (.func (.func 99) #[] #[.pointer (some ⟨sb, 0, none⟩)]) ∧ W.cell? ⟨w.heap.size, 0, none⟩ = some (.int .i64 3) ∧ (W.cell? ⟨w.heap.size, 1, none⟩ = some (.int .i64 x.l.1) ∧ W.cell? ⟨w.heap.size, 2, none⟩ = some (.int .i64 x.l.2) ∧ W.cell? ⟨w.heap.size, 3, none⟩ = some (.int .i64 x.r.1) ∧ W.cell? ⟨w.heap.size, 4, none⟩ = some (.int .i64 x.r.2)) ∧ W.cell? ⟨w.heap.size, 5, none⟩ = some (.int .i64 x.n))
        (first | exact HSF.out _ (by assumption) | assumption | go_keep)
        (first
          | (go_simp; go_at_call 99; (with_reducible refine (HLESS.out _ hbz).mono ?_)
             rintro e w7 ⟨rfl, hb7⟩
             have hbz := hbz.trans (hb7.mono hbz.size)
             clear hb7)
          | (go_simp; go_at_call 120; (with_reducible refine (so_any _ _ _).mono ?_)
             rintro e w7 ⟨rfl, rfl⟩)
          | (go_simp; go_at_call 119; (with_reducible refine (HP.out _ _ _ (HB1.out.trans (hbz.mono HBW.out)) (HO1.out.trans (OthK.of_below hbz)) (HAK.out.keep hbz) (by omega)).mono ?_)
             rintro e w8 ⟨⟨rfl, ha, hB, hO⟩, hO2⟩
             have hS8 := HSE.out w8 _ ha ((OthK.of_below hbz).trans hO2))))
    | fail
    all_goals
      go_wp2
      refine bodyPost_ret (results_none rfl _ _ _) rfl ?_
      exact ⟨rfl, ha, hB, hO⟩

set_option maxRecDepth 100000 in
set_option maxHeartbeats 4000000 in
theorem astep_c4 {wb w : World} {b sb : Nat} {v0 v3 v4 : Value} {s : Sta} {R : List Bool} (h : AkW wb w b sb v0 v3 v4 s R) (hl : R.length ≤ 900) (x : Ins) (hx : x.op = 4) :
    Calls Tryz.prog 113 #[.pointer (some ⟨b, 0, none⟩), insV x] w (StepPost wb.heap.size w b v0 (.int .i64 s.opn) (.int .i64 s.dne) v3 v4 (lessF sb) (askS s x R)) := by
  unfold insV
  obtain ⟨W1, hW1⟩ : ∃ W1, w.alloc (.cells #[.int .i64 x.op, .int .i64 x.l.1, .int .i64 x.l.2, .int .i64 x.r.1, .int .i64 x.r.2, .int .i64 x.n, .int .i64 x.user] 37) = W1 := ⟨_, rfl⟩
  have hb1 : Below w.heap.size w W1 := by rw [← hW1]; exact (Below.refl _ w).alloc (Nat.le_refl _) _
  have hbw : Below wb.heap.size wb W1 := h.low.trans (hb1.mono h.low.size)
  have x1 : Blk W1 w.heap.size #[.int .i64 x.op, .int .i64 x.l.1, .int .i64 x.l.2, .int .i64 x.r.1, .int .i64 x.r.2, .int .i64 x.n, .int .i64 x.user] 37 := by rw [← hW1]; exact Blk.new _ _ _
  have hak : AkB wb.heap.size W1 b v0 (.int .i64 s.opn) (.int .i64 s.dne) v3 v4 (lessF sb) R := h.ak.keep hb1
  have hbb : b < w.heap.size := by obtain ⟨_, hb, _⟩ := h.ak; exact hb.lt
  have HB1 := Lib.hid (hb1.mono h.low.size)
  have HO1 := Lib.hid (OthK.of_below (b := b) hb1)
  have HP : Hid (∀ (W : World) (t : Bool) (Q : List Bool), Below wb.heap.size w W → OthK w W b → AkB wb.heap.size W b v0 (.int .i64 s.opn) (.int .i64 s.dne) v3 v4 (lessF sb) Q → Q.length ≤ 902 → Calls Tryz.prog 119 #[.pointer (some ⟨b, 0, none⟩), .bool t] W fun e w' => AkPost wb.heap.size w b v0 (.int .i64 s.opn) (.int .i64 s.dne) v3 v4 (lessF sb) (t :: Q) (.tuple #[]) e w' ∧ OthK W w' b) := by
    intro W t Q hW hO hA hQ
    refine (apush_any hA (by omega) t).mono ?_
    rintro e w' ⟨he, ha, hB, hO2⟩
    exact ⟨⟨he, ha, hW.trans hB, hO.trans hO2⟩, hO2⟩
  have HSE : Hid (∀ (W : World) (Q : List Bool), AkB wb.heap.size W b v0 (.int .i64 s.opn) (.int .i64 s.dne) v3 v4 (lessF sb) Q → OthK W1 W b → W.cell? ⟨b, 1, none⟩ = some (.int .i64 s.opn) ∧ W.cell? ⟨b, 2, none⟩ = some (.int .i64 s.dne) ∧ W.cell? ⟨b, 5, none⟩ = some (.func (.func 99) #[] #[.pointer (some ⟨sb, 0, none⟩)]) ∧ W.cell? ⟨w.heap.size, 0, none⟩ = some (.int .i64 x.op) ∧ (W.cell? ⟨w.heap.size, 1, none⟩ = some (.int .i64 x.l.1) ∧ W.cell? ⟨w.heap.size, 2, none⟩ = some (.int .i64 x.l.2) ∧ W.cell? ⟨w.heap.size, 3, none⟩ = some (.int .i64 x.r.1) ∧ W.cell? ⟨w.heap.size, 4, none⟩ = some (.int .i64 x.r.2)) ∧ W.cell? ⟨w.heap.size, 5, none⟩ = some (.int .i64 x.n)) := by
    intro W Q hA hO
    obtain ⟨rv, y, _, _⟩ := hA
    have y1 := hO _ _ _ (by omega) (by decide) x1
    exact ⟨y.cell rfl, y.cell rfl, y.cell rfl, y1.cell rfl, ⟨y1.cell rfl, y1.cell rfl, y1.cell rfl, y1.cell rfl⟩, y1.cell rfl⟩
  have HSF : Hid (∀ W, Below W1.heap.size W1 W → W.cell? ⟨b, 1, none⟩ = some (.int .i64 s.opn) ∧ W.cell? ⟨b, 2, none⟩ = some (.int .i64 s.dne) ∧ W.cell? ⟨b, 5, none⟩ = some (.func (.func 99) #[] #[.pointer (some ⟨sb, 0, none⟩)]) ∧ W.cell? ⟨w.heap.size, 0, none⟩ = some (.int .i64 x.op) ∧ (W.cell? ⟨w.heap.size, 1, none⟩ = some (.int .i64 x.l.1) ∧ W.cell? ⟨w.heap.size, 2, none⟩ = some (.int .i64 x.l.2) ∧ W.cell? ⟨w.heap.size, 3, none⟩ = some (.int .i64 x.r.1) ∧ W.cell? ⟨w.heap.size, 4, none⟩ = some (.int .i64 x.r.2)) ∧ W.cell? ⟨w.heap.size, 5, none⟩ = some (.int .i64 x.n)) := fun W hW => HSE.out W _ (hak.keep hW) (OthK.of_below hW)
  have HLESS : Hid (∀ W, Below W1.heap.size W1 W → Calls Tryz.prog 99 #[.agg #[.int .i64 x.l.1, .int .i64 x.l.2], .agg #[.int .i64 x.r.1, .int .i64 x.r.2], .pointer (some ⟨sb, 0, none⟩)] W (OrLost W (if (thereV s x.l && thereV s x.r) = true then some (.int .i64 (cmpI (valV s x.l) (valV s x.r))) else none))) := by
    intro W hW
    have q := hbw.trans (hW.mono hbw.size)
    exact less_any (h.st.below q) (h.box.keep q) x.l x.r
  have HAK := Lib.hid hak
  have HBW := Lib.hid hbw.size
  obtain ⟨d1, d2, d5, c0, ⟨c1, c2, c3, c4⟩, c5⟩ := HSF.out _ (Below.refl _ _)
  clear h hbw hak hb1 x1 hbb
  have HE : Hid (askS s x R = if (thereV s x.l && thereV s x.r) = true then some (soB 4 (cmpI (valV s x.l) (valV s x.r)) :: R) else none) := by
    unfold Hid askS atomI
    rw [if_neg (by omega), if_neg (by omega), if_neg (by omega), if_neg (by omega), if_pos (by omega), soB_cmp, hx]
    cases (thereV s x.l && thereV s x.r) <;> rfl
  rw [HE.out]
  rw [hx] at c0 hW1 HSE HSF
  rw [hx]
  clear HE
  cases hth : (thereV s x.l && thereV s x.r)
  · rw [hth, if_neg (by decide)] at HLESS
    rw [if_neg (by decide)]
    clear hth HP HSE
    go_enter Tryz.func113, Tryz.ntmps113
    go_wp2_with fail
    refine wp_region_held_drew (S := (fun W => W.cell? ⟨b, 1, none⟩ = some (.int .i64 s.opn) ∧ W.cell? ⟨b, 2, none⟩ = some (.int .i64 s.dne) ∧ W.cell? ⟨b, 5, none⟩ = some (.func (.func 99) #[] #[.pointer (some ⟨sb, 0, none⟩)]) ∧ W.cell? ⟨w.heap.size, 0, none⟩ = some (.int .i64 4) ∧ (W.cell? ⟨w.heap.size, 1, none⟩ = some (.int .i64 x.l.1) ∧ W.cell? ⟨w.heap.size, 2, none⟩ = some (.int .i64 x.l.2) ∧ W.cell? ⟨w.heap.size, 3, none⟩ = some (.int .i64 x.r.1) ∧ W.cell? ⟨w.heap.size, 4, none⟩ = some (.int .i64 x.r.2)) ∧ W.cell? ⟨w.heap.size, 5, none⟩ = some (.int .i64 x.n))) (by kernel_rfl) ?_ (fun hHeld => ?_)
    · exact HSF.out _ ((Below.refl _ _).drew)
    refine wpAnyH_take (i := 0) (v := ?ve0) rfl (by kernel_rfl) (by kernel_rfl) (by kernel_rfl) (fun _ _ _ h => h) (Or.inl ⟨by rfl, ?ye0⟩) (by assumption) ?re0
    case ye0 => ((intro w hSw; (try dsimp only at hSw); go_simp) <;> (try with_reducible rfl))
    (try go_simp)
    refine wpAnyH_take (i := 1) (v := ?ve1) rfl (by kernel_rfl) (by kernel_rfl) (by kernel_rfl) (fun _ _ _ h => h) (Or.inl ⟨by rfl, ?ye1⟩) (by assumption) ?re1
    case ye1 => ((intro w hSw; (try dsimp only at hSw); go_simp) <;> (try with_reducible rfl))
    (try go_simp)
    refine wpAnyH_take (i := 2) (v := ?ve2) rfl (by kernel_rfl) (by kernel_rfl) (by kernel_rfl) (fun _ _ _ h => h) (Or.inl ⟨by rfl, ?ye2⟩) (by assumption) ?re2
    case ye2 => ((intro w hSw; (try dsimp only at hSw); go_simp) <;> (try with_reducible rfl))
    (try go_simp)
    refine wpAnyH_take (i := 3) (v := ?ve3) rfl (by kernel_rfl) (by kernel_rfl) (by kernel_rfl) (fun _ _ _ h => h) (Or.inl ⟨by rfl, ?ye3⟩) (by assumption) ?re3
    case ye3 => ((intro w hSw; (try dsimp only at hSw); go_simp) <;> (try with_reducible rfl))
    (try go_simp)
    refine wpAnyH_take (i := 4) (v := ?ve4) rfl (by kernel_rfl) (by kernel_rfl) (by kernel_rfl) (fun _ _ _ h => h) (Or.inl ⟨by rfl, ?ye4⟩) (by assumption) ?re4
    case ye4 => ((intro w hSw; (try dsimp only at hSw); go_simp) <;> (try with_reducible rfl))
    (try go_simp)
    refine wpAnyH_take (i := 5) (v := ?ve5) rfl (by kernel_rfl) (by kernel_rfl) (by kernel_rfl) (fun _ _ _ h => h) (Or.inl ⟨by rfl, ?ye5⟩) (by assumption) ?re5
    case ye5 => ((intro w hSw; (try dsimp only at hSw); go_simp) <;> (try with_reducible rfl))
    (try go_simp)
    refine wpAnyH_take (i := 6) (v := ?ve6) rfl (by kernel_rfl) (by kernel_rfl) (by kernel_rfl) (fun _ _ _ h => h) (Or.inl ⟨by rfl, ?ye6⟩) (by assumption) ?re6
    case ye6 => ((intro w hSw; (try dsimp only at hSw); go_simp) <;> (try with_reducible rfl))
    (try go_simp)
    refine wpAnyH_take (i := 7) (v := ?ve7) rfl (by kernel_rfl) (by kernel_rfl) (by kernel_rfl) (fun _ _ _ h => h) (Or.inl ⟨by rfl, ?ye7⟩) (by assumption) ?re7
    case ye7 => ((intro w hSw; (try dsimp only at hSw); go_simp) <;> (try with_reducible rfl))
    (try go_simp)
    refine wpAnyH_take (i := 8) (v := ?ve8) rfl (by kernel_rfl) (by kernel_rfl) (by kernel_rfl) (fun _ _ _ h => h) (Or.inl ⟨by rfl, ?ye8⟩) (by assumption) ?re8
    case ye8 => ((intro w hSw; (try dsimp only at hSw); go_simp) <;> (try with_reducible rfl))
    (try go_simp)
    refine wpAnyH_take (i := 9) (v := ?ve9) rfl (by kernel_rfl) (by kernel_rfl) (by kernel_rfl) (fun _ _ _ h => h) (Or.inl ⟨by rfl, ?ye9⟩) (by assumption) ?re9
    case ye9 => ((intro w hSw; (try dsimp only at hSw); go_simp) <;> (try with_reducible rfl))
    (try go_simp)
    refine wpAnyH_take (i := 10) (v := ?ve10) rfl (by kernel_rfl) (by kernel_rfl) (by kernel_rfl) (fun _ _ _ h => h) (Or.inl ⟨by rfl, ?ye10⟩) (by assumption) ?re10
    case ye10 => ((intro w hSw; (try dsimp only at hSw); go_simp) <;> (try with_reducible rfl))
    (try go_simp)
    refine wpAnyH_ready (rs := [11]) (by kernel_rfl) (by simp) ?_
    refine AllReadyH.cons rfl (fun K hK => ?_) AllReadyH.nil
    go_simp
    go_at_call 99
    refine (HLESS.out _ ((Below.refl _ _).drew)).mono ?_
    rintro e w7 ⟨rfl, hb7⟩
    have hbz := (Below.refl W1.heap.size W1).drew.trans (hb7.mono (Nat.le_refl _))
    exact ⟨rfl, rfl, HB1.out.trans (hbz.mono HBW.out), HO1.out.trans (OthK.of_below hbz)⟩
  · rw [hth, if_pos rfl] at HLESS
    rw [if_pos rfl]
    clear hth
    go_enter Tryz.func113, Tryz.ntmps113
    go_wp2_with fail
    have hbz : Below W1.heap.size W1 W1.drew := (Below.refl _ _).drew
    first
    | (go_region_held3 (fun W => W.cell? ⟨b, 1, none⟩ = some (.int .i64 s.opn) ∧ W.cell? ⟨b, 2, none⟩ = some (.int .i64 s.dne) ∧ W.cell? ⟨b, 5, none⟩ = some (.func (.func 99) #[] #[.pointer (some ⟨sb, 0, none⟩)]) ∧ W.cell? ⟨w.heap.size, 0, none⟩ = some (.int .i64 4) ∧ (W.cell? ⟨w.heap.size, 1, none⟩ = some (.int .i64 x.l.1) ∧ W.cell? ⟨w.heap.size, 2, none⟩ = some (.int .i64 x.l.2) ∧ W.cell? ⟨w.heap.size, 3, none⟩ = some (.int .i64 x.r.1) ∧ W.cell? ⟨w.heap.size, 4, none⟩ = some (.int .i64 x.r.2)) ∧ W.cell? ⟨w.heap.size, 5, none⟩ = some (.int .i64 x.n))
        (first | exact HSF.out _ (by assumption) | assumption | go_keep)
        (first
          | (go_simp; go_at_call 99; (with_reducible refine (HLESS.out _ hbz).mono ?_)
             rintro e w7 ⟨rfl, hb7⟩
             have hbz := hbz.trans (hb7.mono hbz.size)
             clear hb7)
          | (go_simp; go_at_call 120; (with_reducible refine (so_any _ _ _).mono ?_)
             rintro e w7 ⟨rfl, rfl⟩)
          | (go_simp; go_at_call 119; (with_reducible refine (HP.out _ _ _ (HB1.out.trans (hbz.mono HBW.out)) (HO1.out.trans (OthK.of_below hbz)) (HAK.out.keep hbz) (by omega)).mono ?_)
             rintro e w8 ⟨⟨rfl, ha, hB, hO⟩, hO2⟩
             have hS8 := HSE.out w8 _ ha ((OthK.of_below hbz).trans hO2))))
    | fail
    all_goals
      go_wp2
      refine bodyPost_ret (results_none rfl _ _ _) rfl ?_
      exact ⟨rfl, ha, hB, hO⟩

set_option maxRecDepth 100000 in
set_option maxHeartbeats 4000000 in
theorem astep_c5 {wb w : World} {b sb : Nat} {v0 v3 v4 : Value} {s : Sta} {R : List Bool} (h : AkW wb w b sb v0 v3 v4 s R) (hl : R.length ≤ 900) (x : Ins) (hx : x.op = 5) :
    Calls Tryz.prog 113 #[.pointer (some ⟨b, 0, none⟩), insV x] w (StepPost wb.heap.size w b v0 (.int .i64 s.opn) (.int .i64 s.dne) v3 v4 (lessF sb) (askS s x R)) := by
  unfold insV
  obtain ⟨W1, hW1⟩ : ∃ W1, w.alloc (.cells #[.int .i64 x.op, .int .i64 x.l.1, .int .i64 x.l.2, .int .i64 x.r.1, .int .i64 x.r.2, .int .i64 x.n, .int .i64 x.user] 37) = W1 := ⟨_, rfl⟩
  have hb1 : Below w.heap.size w W1 := by rw [← hW1]; exact (Below.refl _ w).alloc (Nat.le_refl _) _
  have hbw : Below wb.heap.size wb W1 := h.low.trans (hb1.mono h.low.size)
  have x1 : Blk W1 w.heap.size #[.int .i64 x.op, .int .i64 x.l.1, .int .i64 x.l.2, .int .i64 x.r.1, .int .i64 x.r.2, .int .i64 x.n, .int .i64 x.user] 37 := by rw [← hW1]; exact Blk.new _ _ _
  have hak : AkB wb.heap.size W1 b v0 (.int .i64 s.opn) (.int .i64 s.dne) v3 v4 (lessF sb) R := h.ak.keep hb1
  have hbb : b < w.heap.size := by obtain ⟨_, hb, _⟩ := h.ak; exact hb.lt
  have HB1 := Lib.hid (hb1.mono h.low.size)
  have HO1 := Lib.hid (OthK.of_below (b := b) hb1)
  have HP : Hid (∀ (W : World) (t : Bool) (Q : List Bool), Below wb.heap.size w W → OthK w W b → AkB wb.heap.size W b v0 (.int .i64 s.opn) (.int .i64 s.dne) v3 v4 (lessF sb) Q → Q.length ≤ 902 → Calls Tryz.prog 119 #[.pointer (some ⟨b, 0, none⟩), .bool t] W fun e w' => AkPost wb.heap.size w b v0 (.int .i64 s.opn) (.int .i64 s.dne) v3 v4 (lessF sb) (t :: Q) (.tuple #[]) e w' ∧ OthK W w' b) := by
    intro W t Q hW hO hA hQ
    refine (apush_any hA (by omega) t).mono ?_
    rintro e w' ⟨he, ha, hB, hO2⟩
    exact ⟨⟨he, ha, hW.trans hB, hO.trans hO2⟩, hO2⟩
  have HSE : Hid (∀ (W : World) (Q : List Bool), AkB wb.heap.size W b v0 (.int .i64 s.opn) (.int .i64 s.dne) v3 v4 (lessF sb) Q → OthK W1 W b → W.cell? ⟨b, 1, none⟩ = some (.int .i64 s.opn) ∧ W.cell? ⟨b, 2, none⟩ = some (.int .i64 s.dne) ∧ W.cell? ⟨b, 5, none⟩ = some (.func (.func 99) #[] #[.pointer (some ⟨sb, 0, none⟩)]) ∧ W.cell? ⟨w.heap.size, 0, none⟩ = some (.int .i64 x.op) ∧ (W.cell? ⟨w.heap.size, 1, none⟩ = some (.int .i64 x.l.1) ∧ W.cell? ⟨w.heap.size, 2, none⟩ = some (.int .i64 x.l.2) ∧ W.cell? ⟨w.heap.size, 3, none⟩ = some (.int .i64 x.r.1) ∧ W.cell? ⟨w.heap.size, 4, none⟩ = some (.int .i64 x.r.2)) ∧ W.cell? ⟨w.heap.size, 5, none⟩ = some (.int .i64 x.n)) := by
    intro W Q hA hO
    obtain ⟨rv, y, _, _⟩ := hA
    have y1 := hO _ _ _ (by omega) (by decide) x1
    exact ⟨y.cell rfl, y.cell rfl, y.cell rfl, y1.cell rfl, ⟨y1.cell rfl, y1.cell rfl, y1.cell rfl, y1.cell rfl⟩, y1.cell rfl⟩
  have HSF : Hid (∀ W, Below W1.heap.size W1 W → W.cell? ⟨b, 1, none⟩ = some (.int .i64 s.opn) ∧ W.cell? ⟨b, 2, none⟩ = some (.int .i64 s.dne) ∧ W.cell? ⟨b, 5, none⟩ = some (.func (.func 99) #[] #[.pointer (some ⟨sb, 0, none⟩)]) ∧ W.cell? ⟨w.heap.size, 0, none⟩ = some (.int .i64 x.op) ∧ (W.cell? ⟨w.heap.size, 1, none⟩ = some (.int .i64 x.l.1) ∧ W.cell? ⟨w.heap.size, 2, none⟩ = some (.int .i64 x.l.2) ∧ W.cell? ⟨w.heap.size, 3, none⟩ = some (.int .i64 x.r.1) ∧ W.cell? ⟨w.heap.size, 4, none⟩ = some (.int .i64 x.r.2)) ∧ W.cell? ⟨w.heap.size, 5, none⟩ = some (.int .i64 x.n)) := fun W hW => HSE.out W _ (hak.keep hW) (OthK.of_below hW)
  have HLESS : Hid (∀ W, Below W1.heap.size W1 W → Calls Tryz.prog 99 #[.agg #[.int .i64 x.l.1, .int .i64 x.l.2], .agg #[.int .i64 x.r.1, .int .i64 x.r.2], .pointer (some ⟨sb, 0, none⟩)] W (OrLost W (if (thereV s x.l && thereV s x.r) = true then some (.int .i64 (cmpI (valV s x.l) (valV s x.r))) else none))) := by
    intro W hW
    have q := hbw.trans (hW.mono hbw.size)
    exact less_any (h.st.below q) (h.box.keep q) x.l x.r
  have HAK := Lib.hid hak
  have HBW := Lib.hid hbw.size
  obtain ⟨d1, d2, d5, c0, ⟨c1, c2, c3, c4⟩, c5⟩ := HSF.out _ (Below.refl _ _)
  clear h hbw hak hb1 x1 hbb
  have HE : Hid (askS s x R = if (thereV s x.l && thereV s x.r) = true then some (soB 5 (cmpI (valV s x.l) (valV s x.r)) :: R) else none) := by
    unfold Hid askS atomI
    rw [if_neg (by omega), if_neg (by omega), if_neg (by omega), if_neg (by omega), if_pos (by omega), soB_cmp, hx]
    cases (thereV s x.l && thereV s x.r) <;> rfl
  rw [HE.out]
  rw [hx] at c0 hW1 HSE HSF
  rw [hx]
  clear HE
  cases hth : (thereV s x.l && thereV s x.r)
  · rw [hth, if_neg (by decide)] at HLESS
    rw [if_neg (by decide)]
    clear hth HP HSE
    go_enter Tryz.func113, Tryz.ntmps113
    go_wp2_with fail
    refine wp_region_held_drew (S := (fun W => W.cell? ⟨b, 1, none⟩ = some (.int .i64 s.opn) ∧ W.cell? ⟨b, 2, none⟩ = some (.int .i64 s.dne) ∧ W.cell? ⟨b, 5, none⟩ = some (.func (.func 99) #[] #[.pointer (some ⟨sb, 0, none⟩)]) ∧ W.cell? ⟨w.heap.size, 0, none⟩ = some (.int .i64 5) ∧ (W.cell? ⟨w.heap.size, 1, none⟩ = some (.int .i64 x.l.1) ∧ W.cell? ⟨w.heap.size, 2, none⟩ = some (.int .i64 x.l.2) ∧ W.cell? ⟨w.heap.size, 3, none⟩ = some (.int .i64 x.r.1) ∧ W.cell? ⟨w.heap.size, 4, none⟩ = some (.int .i64 x.r.2)) ∧ W.cell? ⟨w.heap.size, 5, none⟩ = some (.int .i64 x.n))) (by kernel_rfl) ?_ (fun hHeld => ?_)
    · exact HSF.out _ ((Below.refl _ _).drew)
    refine wpAnyH_take (i := 0) (v := ?vf0) rfl (by kernel_rfl) (by kernel_rfl) (by kernel_rfl) (fun _ _ _ h => h) (Or.inl ⟨by rfl, ?yf0⟩) (by assumption) ?rf0
    case yf0 => ((intro w hSw; (try dsimp only at hSw); go_simp) <;> (try with_reducible rfl))
    (try go_simp)
    refine wpAnyH_take (i := 1) (v := ?vf1) rfl (by kernel_rfl) (by kernel_rfl) (by kernel_rfl) (fun _ _ _ h => h) (Or.inl ⟨by rfl, ?yf1⟩) (by assumption) ?rf1
    case yf1 => ((intro w hSw; (try dsimp only at hSw); go_simp) <;> (try with_reducible rfl))
    (try go_simp)
    refine wpAnyH_take (i := 2) (v := ?vf2) rfl (by kernel_rfl) (by kernel_rfl) (by kernel_rfl) (fun _ _ _ h => h) (Or.inl ⟨by rfl, ?yf2⟩) (by assumption) ?rf2
    case yf2 => ((intro w hSw; (try dsimp only at hSw); go_simp) <;> (try with_reducible rfl))
    (try go_simp)
    refine wpAnyH_take (i := 3) (v := ?vf3) rfl (by kernel_rfl) (by kernel_rfl) (by kernel_rfl) (fun _ _ _ h => h) (Or.inl ⟨by rfl, ?yf3⟩) (by assumption) ?rf3
    case yf3 => ((intro w hSw; (try dsimp only at hSw); go_simp) <;> (try with_reducible rfl))
    (try go_simp)
    refine wpAnyH_take (i := 4) (v := ?vf4) rfl (by kernel_rfl) (by kernel_rfl) (by kernel_rfl) (fun _ _ _ h => h) (Or.inl ⟨by rfl, ?yf4⟩) (by assumption) ?rf4
    case yf4 => ((intro w hSw; (try dsimp only at hSw); go_simp) <;> (try with_reducible rfl))
    (try go_simp)
    refine wpAnyH_take (i := 5) (v := ?vf5) rfl (by kernel_rfl) (by kernel_rfl) (by kernel_rfl) (fun _ _ _ h => h) (Or.inl ⟨by rfl, ?yf5⟩) (by assumption) ?rf5
    case yf5 => ((intro w hSw; (try dsimp only at hSw); go_simp) <;> (try with_reducible rfl))
    (try go_simp)
    refine wpAnyH_take (i := 6) (v := ?vf6) rfl (by kernel_rfl) (by kernel_rfl) (by kernel_rfl) (fun _ _ _ h => h) (Or.inl ⟨by rfl, ?yf6⟩) (by assumption) ?rf6
    case yf6 => ((intro w hSw; (try dsimp only at hSw); go_simp) <;> (try with_reducible rfl))
    (try go_simp)
    refine wpAnyH_take (i := 7) (v := ?vf7) rfl (by kernel_rfl) (by kernel_rfl) (by kernel_rfl) (fun _ _ _ h => h) (Or.inl ⟨by rfl, ?yf7⟩) (by assumption) ?rf7
    case yf7 => ((intro w hSw; (try dsimp only at hSw); go_simp) <;> (try with_reducible rfl))
    (try go_simp)
    refine wpAnyH_take (i := 8) (v := ?vf8) rfl (by kernel_rfl) (by kernel_rfl) (by kernel_rfl) (fun _ _ _ h => h) (Or.inl ⟨by rfl, ?yf8⟩) (by assumption) ?rf8
    case yf8 => ((intro w hSw; (try dsimp only at hSw); go_simp) <;> (try with_reducible rfl))
    (try go_simp)
    refine wpAnyH_take (i := 9) (v := ?vf9) rfl (by kernel_rfl) (by kernel_rfl) (by kernel_rfl) (fun _ _ _ h => h) (Or.inl ⟨by rfl, ?yf9⟩) (by assumption) ?rf9
    case yf9 => ((intro w hSw; (try dsimp only at hSw); go_simp) <;> (try with_reducible rfl))
    (try go_simp)
    refine wpAnyH_take (i := 10) (v := ?vf10) rfl (by kernel_rfl) (by kernel_rfl) (by kernel_rfl) (fun _ _ _ h => h) (Or.inl ⟨by rfl, ?yf10⟩) (by assumption) ?rf10
    case yf10 => ((intro w hSw; (try dsimp only at hSw); go_simp) <;> (try with_reducible rfl))
    (try go_simp)
    refine wpAnyH_ready (rs := [11]) (by kernel_rfl) (by simp) ?_
    refine AllReadyH.cons rfl (fun K hK => ?_) AllReadyH.nil
    go_simp
    go_at_call 99
    refine (HLESS.out _ ((Below.refl _ _).drew)).mono ?_
    rintro e w7 ⟨rfl, hb7⟩
    have hbz := (Below.refl W1.heap.size W1).drew.trans (hb7.mono (Nat.le_refl _))
    exact ⟨rfl, rfl, HB1.out.trans (hbz.mono HBW.out), HO1.out.trans (OthK.of_below hbz)⟩
  · rw [hth, if_pos rfl] at HLESS
    rw [if_pos rfl]
    clear hth
    go_enter Tryz.func113, Tryz.ntmps113
    go_wp2_with fail
    have hbz : Below W1.heap.size W1 W1.drew := (Below.refl _ _).drew
    first
    | (go_region_held3 (fun W => W.cell? ⟨b, 1, none⟩ = some (.int .i64 s.opn) ∧ W.cell? ⟨b, 2, none⟩ = some (.int .i64 s.dne) ∧ W.cell? ⟨b, 5, none⟩ = some (.func (.func 99) #[] #[.pointer (some ⟨sb, 0, none⟩)]) ∧ W.cell? ⟨w.heap.size, 0, none⟩ = some (.int .i64 5) ∧ (W.cell? ⟨w.heap.size, 1, none⟩ = some (.int .i64 x.l.1) ∧ W.cell? ⟨w.heap.size, 2, none⟩ = some (.int .i64 x.l.2) ∧ W.cell? ⟨w.heap.size, 3, none⟩ = some (.int .i64 x.r.1) ∧ W.cell? ⟨w.heap.size, 4, none⟩ = some (.int .i64 x.r.2)) ∧ W.cell? ⟨w.heap.size, 5, none⟩ = some (.int .i64 x.n))
        (first | exact HSF.out _ (by assumption) | assumption | go_keep)
        (first
          | (go_simp; go_at_call 99; (with_reducible refine (HLESS.out _ hbz).mono ?_)
             rintro e w7 ⟨rfl, hb7⟩
             have hbz := hbz.trans (hb7.mono hbz.size)
             clear hb7)
          | (go_simp; go_at_call 120; (with_reducible refine (so_any _ _ _).mono ?_)
             rintro e w7 ⟨rfl, rfl⟩)
          | (go_simp; go_at_call 119; (with_reducible refine (HP.out _ _ _ (HB1.out.trans (hbz.mono HBW.out)) (HO1.out.trans (OthK.of_below hbz)) (HAK.out.keep hbz) (by omega)).mono ?_)
             rintro e w8 ⟨⟨rfl, ha, hB, hO⟩, hO2⟩
             have hS8 := HSE.out w8 _ ha ((OthK.of_below hbz).trans hO2))))
    | fail
    all_goals
      go_wp2
      refine bodyPost_ret (results_none rfl _ _ _) rfl ?_
      exact ⟨rfl, ha, hB, hO⟩

set_option maxRecDepth 100000 in
set_option maxHeartbeats 4000000 in
theorem astep_c6 {wb w : World} {b sb : Nat} {v0 v3 v4 : Value} {s : Sta} {R : List Bool} (h : AkW wb w b sb v0 v3 v4 s R) (hl : R.length ≤ 900) (x : Ins) (hx : x.op = 6) :
    Calls Tryz.prog 113 #[.pointer (some ⟨b, 0, none⟩), insV x] w (StepPost wb.heap.size w b v0 (.int .i64 s.opn) (.int .i64 s.dne) v3 v4 (lessF sb) (askS s x R)) := by
  unfold insV
  obtain ⟨W1, hW1⟩ : ∃ W1, w.alloc (.cells #[.int .i64 x.op, .int .i64 x.l.1, .int .i64 x.l.2, .int .i64 x.r.1, .int .i64 x.r.2, .int .i64 x.n, .int .i64 x.user] 37) = W1 := ⟨_, rfl⟩
  have hb1 : Below w.heap.size w W1 := by rw [← hW1]; exact (Below.refl _ w).alloc (Nat.le_refl _) _
  have hbw : Below wb.heap.size wb W1 := h.low.trans (hb1.mono h.low.size)
  have x1 : Blk W1 w.heap.size #[.int .i64 x.op, .int .i64 x.l.1, .int .i64 x.l.2, .int .i64 x.r.1, .int .i64 x.r.2, .int .i64 x.n, .int .i64 x.user] 37 := by rw [← hW1]; exact Blk.new _ _ _
  have hak : AkB wb.heap.size W1 b v0 (.int .i64 s.opn) (.int .i64 s.dne) v3 v4 (lessF sb) R := h.ak.keep hb1
  have hbb : b < w.heap.size := by obtain ⟨_, hb, _⟩ := h.ak; exact hb.lt
  have HB1 := Lib.hid (hb1.mono h.low.size)
  have HO1 := Lib.hid (OthK.of_below (b := b) hb1)
  have HP : Hid (∀ (W : World) (t : Bool) (Q : List Bool), Below wb.heap.size w W → OthK w W b → AkB wb.heap.size W b v0 (.int .i64 s.opn) (.int .i64 s.dne) v3 v4 (lessF sb) Q → Q.length ≤ 902 → Calls Tryz.prog 119 #[.pointer (some ⟨b, 0, none⟩), .bool t] W fun e w' => AkPost wb.heap.size w b v0 (.int .i64 s.opn) (.int .i64 s.dne) v3 v4 (lessF sb) (t :: Q) (.tuple #[]) e w' ∧ OthK W w' b) := by
    intro W t Q hW hO hA hQ
    refine (apush_any hA (by omega) t).mono ?_
    rintro e w' ⟨he, ha, hB, hO2⟩
    exact ⟨⟨he, ha, hW.trans hB, hO.trans hO2⟩, hO2⟩
  have HSE : Hid (∀ (W : World) (Q : List Bool), AkB wb.heap.size W b v0 (.int .i64 s.opn) (.int .i64 s.dne) v3 v4 (lessF sb) Q → OthK W1 W b → W.cell? ⟨b, 1, none⟩ = some (.int .i64 s.opn) ∧ W.cell? ⟨b, 2, none⟩ = some (.int .i64 s.dne) ∧ W.cell? ⟨b, 5, none⟩ = some (.func (.func 99) #[] #[.pointer (some ⟨sb, 0, none⟩)]) ∧ W.cell? ⟨w.heap.size, 0, none⟩ = some (.int .i64 x.op) ∧ (W.cell? ⟨w.heap.size, 1, none⟩ = some (.int .i64 x.l.1) ∧ W.cell? ⟨w.heap.size, 2, none⟩ = some (.int .i64 x.l.2) ∧ W.cell? ⟨w.heap.size, 3, none⟩ = some (.int .i64 x.r.1) ∧ W.cell? ⟨w.heap.size, 4, none⟩ = some (.int .i64 x.r.2)) ∧ W.cell? ⟨w.heap.size, 5, none⟩ = some (.int .i64 x.n)) := by
    intro W Q hA hO
    obtain ⟨rv, y, _, _⟩ := hA
    have y1 := hO _ _ _ (by omega) (by decide) x1
    exact ⟨y.cell rfl, y.cell rfl, y.cell rfl, y1.cell rfl, ⟨y1.cell rfl, y1.cell rfl, y1.cell rfl, y1.cell rfl⟩, y1.cell rfl⟩
  have HSF : Hid (∀ W, Below W1.heap.size W1 W → W.cell? ⟨b, 1, none⟩ = some (.int .i64 s.opn) ∧ W.cell? ⟨b, 2, none⟩ = some (.int .i64 s.dne) ∧ W.cell? ⟨b, 5, none⟩ = some (.func (.func 99) #[] #[.pointer (some ⟨sb, 0, none⟩)]) ∧ W.cell? ⟨w.heap.size, 0, none⟩ = some (.int .i64 x.op) ∧ (W.cell? ⟨w.heap.size, 1, none⟩ = some (.int .i64 x.l.1) ∧ W.cell? ⟨w.heap.size, 2, none⟩ = some (.int .i64 x.l.2) ∧ W.cell? ⟨w.heap.size, 3, none⟩ = some (.int .i64 x.r.1) ∧ W.cell? ⟨w.heap.size, 4, none⟩ = some (.int .i64 x.r.2)) ∧ W.cell? ⟨w.heap.size, 5, none⟩ = some (.int .i64 x.n)) := fun W hW => HSE.out W _ (hak.keep hW) (OthK.of_below hW)
  have HLESS : Hid (∀ W, Below W1.heap.size W1 W → Calls Tryz.prog 99 #[.agg #[.int .i64 x.l.1, .int .i64 x.l.2], .agg #[.int .i64 x.r.1, .int .i64 x.r.2], .pointer (some ⟨sb, 0, none⟩)] W (OrLost W (if (thereV s x.l && thereV s x.r) = true then some (.int .i64 (cmpI (valV s x.l) (valV s x.r))) else none))) := by
    intro W hW
    have q := hbw.trans (hW.mono hbw.size)
    exact less_any (h.st.below q) (h.box.keep q) x.l x.r
  have HAK := Lib.hid hak
  have HBW := Lib.hid hbw.size
  obtain ⟨d1, d2, d5, c0, ⟨c1, c2, c3, c4⟩, c5⟩ := HSF.out _ (Below.refl _ _)
  clear h hbw hak hb1 x1 hbb
  have HE : Hid (askS s x R = if (thereV s x.l && thereV s x.r) = true then some (soB 6 (cmpI (valV s x.l) (valV s x.r)) :: R) else none) := by
    unfold Hid askS atomI
    rw [if_neg (by omega), if_neg (by omega), if_neg (by omega), if_neg (by omega), if_pos (by omega), soB_cmp, hx]
    cases (thereV s x.l && thereV s x.r) <;> rfl
  rw [HE.out]
  rw [hx] at c0 hW1 HSE HSF
  rw [hx]
  clear HE
  cases hth : (thereV s x.l && thereV s x.r)
  · rw [hth, if_neg (by decide)] at HLESS
    rw [if_neg (by decide)]
    clear hth HP HSE
    go_enter Tryz.func113, Tryz.ntmps113
    go_wp2_with fail
    refine wp_region_held_drew (S := (fun W => W.cell? ⟨b, 1, none⟩ = some (.int .i64 s.opn) ∧ W.cell? ⟨b, 2, none⟩ = some (.int .i64 s.dne) ∧ W.cell? ⟨b, 5, none⟩ = some (.func (.func 99) #[] #[.pointer (some ⟨sb, 0, none⟩)]) ∧ W.cell? ⟨w.heap.size, 0, none⟩ = some (.int .i64 6) ∧ (W.cell? ⟨w.heap.size, 1, none⟩ = some (.int .i64 x.l.1) ∧ W.cell? ⟨w.heap.size, 2, none⟩ = some (.int .i64 x.l.2) ∧ W.cell? ⟨w.heap.size, 3, none⟩ = some (.int .i64 x.r.1) ∧ W.cell? ⟨w.heap.size, 4, none⟩ = some (.int .i64 x.r.2)) ∧ W.cell? ⟨w.heap.size, 5, none⟩ = some (.int .i64 x.n))) (by kernel_rfl) ?_ (fun hHeld => ?_)
    · exact HSF.out _ ((Below.refl _ _).drew)
    refine wpAnyH_take (i := 0) (v := ?vg0) rfl (by kernel_rfl) (by kernel_rfl) (by kernel_rfl) (fun _ _ _ h => h) (Or.inl ⟨by rfl, ?yg0⟩) (by assumption) ?rg0
    case yg0 => ((intro w hSw; (try dsimp only at hSw); go_simp) <;> (try with_reducible rfl))
    (try go_simp)
    refine wpAnyH_take (i := 1) (v := ?vg1) rfl (by kernel_rfl) (by kernel_rfl) (by kernel_rfl) (fun _ _ _ h => h) (Or.inl ⟨by rfl, ?yg1⟩) (by assumption) ?rg1
    case yg1 => ((intro w hSw; (try dsimp only at hSw); go_simp) <;> (try with_reducible rfl))
    (try go_simp)
    refine wpAnyH_take (i := 2) (v := ?vg2) rfl (by kernel_rfl) (by kernel_rfl) (by kernel_rfl) (fun _ _ _ h => h) (Or.inl ⟨by rfl, ?yg2⟩) (by assumption) ?rg2
    case yg2 => ((intro w hSw; (try dsimp only at hSw); go_simp) <;> (try with_reducible rfl))
    (try go_simp)
    refine wpAnyH_take (i := 3) (v := ?vg3) rfl (by kernel_rfl) (by kernel_rfl) (by kernel_rfl) (fun _ _ _ h => h) (Or.inl ⟨by rfl, ?yg3⟩) (by assumption) ?rg3
    case yg3 => ((intro w hSw; (try dsimp only at hSw); go_simp) <;> (try with_reducible rfl))
    (try go_simp)
    refine wpAnyH_take (i := 4) (v := ?vg4) rfl (by kernel_rfl) (by kernel_rfl) (by kernel_rfl) (fun _ _ _ h => h) (Or.inl ⟨by rfl, ?yg4⟩) (by assumption) ?rg4
    case yg4 => ((intro w hSw; (try dsimp only at hSw); go_simp) <;> (try with_reducible rfl))
    (try go_simp)
    refine wpAnyH_take (i := 5) (v := ?vg5) rfl (by kernel_rfl) (by kernel_rfl) (by kernel_rfl) (fun _ _ _ h => h) (Or.inl ⟨by rfl, ?yg5⟩) (by assumption) ?rg5
    case yg5 => ((intro w hSw; (try dsimp only at hSw); go_simp) <;> (try with_reducible rfl))
    (try go_simp)
    refine wpAnyH_take (i := 6) (v := ?vg6) rfl (by kernel_rfl) (by kernel_rfl) (by kernel_rfl) (fun _ _ _ h => h) (Or.inl ⟨by rfl, ?yg6⟩) (by assumption) ?rg6
    case yg6 => ((intro w hSw; (try dsimp only at hSw); go_simp) <;> (try with_reducible rfl))
    (try go_simp)
    refine wpAnyH_take (i := 7) (v := ?vg7) rfl (by kernel_rfl) (by kernel_rfl) (by kernel_rfl) (fun _ _ _ h => h) (Or.inl ⟨by rfl, ?yg7⟩) (by assumption) ?rg7
    case yg7 => ((intro w hSw; (try dsimp only at hSw); go_simp) <;> (try with_reducible rfl))
    (try go_simp)
    refine wpAnyH_take (i := 8) (v := ?vg8) rfl (by kernel_rfl) (by kernel_rfl) (by kernel_rfl) (fun _ _ _ h => h) (Or.inl ⟨by rfl, ?yg8⟩) (by assumption) ?rg8
    case yg8 => ((intro w hSw; (try dsimp only at hSw); go_simp) <;> (try with_reducible rfl))
    (try go_simp)
    refine wpAnyH_take (i := 9) (v := ?vg9) rfl (by kernel_rfl) (by kernel_rfl) (by kernel_rfl) (fun _ _ _ h => h) (Or.inl ⟨by rfl, ?yg9⟩) (by assumption) ?rg9
    case yg9 => ((intro w hSw; (try dsimp only at hSw); go_simp) <;> (try with_reducible rfl))
    (try go_simp)
    refine wpAnyH_take (i := 10) (v := ?vg10) rfl (by kernel_rfl) (by kernel_rfl) (by kernel_rfl) (fun _ _ _ h => h) (Or.inl ⟨by rfl, ?yg10⟩) (by assumption) ?rg10
    case yg10 => ((intro w hSw; (try dsimp only at hSw); go_simp) <;> (try with_reducible rfl))
    (try go_simp)
    refine wpAnyH_ready (rs := [11]) (by kernel_rfl) (by simp) ?_
    refine AllReadyH.cons rfl (fun K hK => ?_) AllReadyH.nil
    go_simp
    go_at_call 99
    refine (HLESS.out _ ((Below.refl _ _).drew)).mono ?_
    rintro e w7 ⟨rfl, hb7⟩
    have hbz := (Below.refl W1.heap.size W1).drew.trans (hb7.mono (Nat.le_refl _))
    exact ⟨rfl, rfl, HB1.out.trans (hbz.mono HBW.out), HO1.out.trans (OthK.of_below hbz)⟩
  · rw [hth, if_pos rfl] at HLESS
    rw [if_pos rfl]
    clear hth
    go_enter Tryz.func113, Tryz.ntmps113
    go_wp2_with fail
    have hbz : Below W1.heap.size W1 W1.drew := (Below.refl _ _).drew
    first
    | (go_region_held3 (fun W => W.cell? ⟨b, 1, none⟩ = some (.int .i64 s.opn) ∧ W.cell? ⟨b, 2, none⟩ = some (.int .i64 s.dne) ∧ W.cell? ⟨b, 5, none⟩ = some (.func (.func 99) #[] #[.pointer (some ⟨sb, 0, none⟩)]) ∧ W.cell? ⟨w.heap.size, 0, none⟩ = some (.int .i64 6) ∧ (W.cell? ⟨w.heap.size, 1, none⟩ = some (.int .i64 x.l.1) ∧ W.cell? ⟨w.heap.size, 2, none⟩ = some (.int .i64 x.l.2) ∧ W.cell? ⟨w.heap.size, 3, none⟩ = some (.int .i64 x.r.1) ∧ W.cell? ⟨w.heap.size, 4, none⟩ = some (.int .i64 x.r.2)) ∧ W.cell? ⟨w.heap.size, 5, none⟩ = some (.int .i64 x.n))
        (first | exact HSF.out _ (by assumption) | assumption | go_keep)
        (first
          | (go_simp; go_at_call 99; (with_reducible refine (HLESS.out _ hbz).mono ?_)
             rintro e w7 ⟨rfl, hb7⟩
             have hbz := hbz.trans (hb7.mono hbz.size)
             clear hb7)
          | (go_simp; go_at_call 120; (with_reducible refine (so_any _ _ _).mono ?_)
             rintro e w7 ⟨rfl, rfl⟩)
          | (go_simp; go_at_call 119; (with_reducible refine (HP.out _ _ _ (HB1.out.trans (hbz.mono HBW.out)) (HO1.out.trans (OthK.of_below hbz)) (HAK.out.keep hbz) (by omega)).mono ?_)
             rintro e w8 ⟨⟨rfl, ha, hB, hO⟩, hO2⟩
             have hS8 := HSE.out w8 _ ha ((OthK.of_below hbz).trans hO2))))
    | fail
    all_goals
      go_wp2
      refine bodyPost_ret (results_none rfl _ _ _) rfl ?_
      exact ⟨rfl, ha, hB, hO⟩

set_option maxRecDepth 100000 in
set_option maxHeartbeats 4000000 in
theorem astep_c7 {wb w : World} {b sb : Nat} {v0 v3 v4 : Value} {s : Sta} {R : List Bool} (h : AkW wb w b sb v0 v3 v4 s R) (hl : R.length ≤ 900) (x : Ins) (hx : x.op = 7) :
    Calls Tryz.prog 113 #[.pointer (some ⟨b, 0, none⟩), insV x] w (StepPost wb.heap.size w b v0 (.int .i64 s.opn) (.int .i64 s.dne) v3 v4 (lessF sb) (askS s x R)) := by
  unfold insV
  obtain ⟨W1, hW1⟩ : ∃ W1, w.alloc (.cells #[.int .i64 x.op, .int .i64 x.l.1, .int .i64 x.l.2, .int .i64 x.r.1, .int .i64 x.r.2, .int .i64 x.n, .int .i64 x.user] 37) = W1 := ⟨_, rfl⟩
  have hb1 : Below w.heap.size w W1 := by rw [← hW1]; exact (Below.refl _ w).alloc (Nat.le_refl _) _
  have hbw : Below wb.heap.size wb W1 := h.low.trans (hb1.mono h.low.size)
  have x1 : Blk W1 w.heap.size #[.int .i64 x.op, .int .i64 x.l.1, .int .i64 x.l.2, .int .i64 x.r.1, .int .i64 x.r.2, .int .i64 x.n, .int .i64 x.user] 37 := by rw [← hW1]; exact Blk.new _ _ _
  have hak : AkB wb.heap.size W1 b v0 (.int .i64 s.opn) (.int .i64 s.dne) v3 v4 (lessF sb) R := h.ak.keep hb1
  have hbb : b < w.heap.size := by obtain ⟨_, hb, _⟩ := h.ak; exact hb.lt
  have HB1 := Lib.hid (hb1.mono h.low.size)
  have HO1 := Lib.hid (OthK.of_below (b := b) hb1)
  have HP : Hid (∀ (W : World) (t : Bool) (Q : List Bool), Below wb.heap.size w W → OthK w W b → AkB wb.heap.size W b v0 (.int .i64 s.opn) (.int .i64 s.dne) v3 v4 (lessF sb) Q → Q.length ≤ 902 → Calls Tryz.prog 119 #[.pointer (some ⟨b, 0, none⟩), .bool t] W fun e w' => AkPost wb.heap.size w b v0 (.int .i64 s.opn) (.int .i64 s.dne) v3 v4 (lessF sb) (t :: Q) (.tuple #[]) e w' ∧ OthK W w' b) := by
    intro W t Q hW hO hA hQ
    refine (apush_any hA (by omega) t).mono ?_
    rintro e w' ⟨he, ha, hB, hO2⟩
    exact ⟨⟨he, ha, hW.trans hB, hO.trans hO2⟩, hO2⟩
  have HSE : Hid (∀ (W : World) (Q : List Bool), AkB wb.heap.size W b v0 (.int .i64 s.opn) (.int .i64 s.dne) v3 v4 (lessF sb) Q → OthK W1 W b → W.cell? ⟨b, 1, none⟩ = some (.int .i64 s.opn) ∧ W.cell? ⟨b, 2, none⟩ = some (.int .i64 s.dne) ∧ W.cell? ⟨b, 5, none⟩ = some (.func (.func 99) #[] #[.pointer (some ⟨sb, 0, none⟩)]) ∧ W.cell? ⟨w.heap.size, 0, none⟩ = some (.int .i64 x.op) ∧ (W.cell? ⟨w.heap.size, 1, none⟩ = some (.int .i64 x.l.1) ∧ W.cell? ⟨w.heap.size, 2, none⟩ = some (.int .i64 x.l.2) ∧ W.cell? ⟨w.heap.size, 3, none⟩ = some (.int .i64 x.r.1) ∧ W.cell? ⟨w.heap.size, 4, none⟩ = some (.int .i64 x.r.2)) ∧ W.cell? ⟨w.heap.size, 5, none⟩ = some (.int .i64 x.n)) := by
    intro W Q hA hO
    obtain ⟨rv, y, _, _⟩ := hA
    have y1 := hO _ _ _ (by omega) (by decide) x1
    exact ⟨y.cell rfl, y.cell rfl, y.cell rfl, y1.cell rfl, ⟨y1.cell rfl, y1.cell rfl, y1.cell rfl, y1.cell rfl⟩, y1.cell rfl⟩
  have HSF : Hid (∀ W, Below W1.heap.size W1 W → W.cell? ⟨b, 1, none⟩ = some (.int .i64 s.opn) ∧ W.cell? ⟨b, 2, none⟩ = some (.int .i64 s.dne) ∧ W.cell? ⟨b, 5, none⟩ = some (.func (.func 99) #[] #[.pointer (some ⟨sb, 0, none⟩)]) ∧ W.cell? ⟨w.heap.size, 0, none⟩ = some (.int .i64 x.op) ∧ (W.cell? ⟨w.heap.size, 1, none⟩ = some (.int .i64 x.l.1) ∧ W.cell? ⟨w.heap.size, 2, none⟩ = some (.int .i64 x.l.2) ∧ W.cell? ⟨w.heap.size, 3, none⟩ = some (.int .i64 x.r.1) ∧ W.cell? ⟨w.heap.size, 4, none⟩ = some (.int .i64 x.r.2)) ∧ W.cell? ⟨w.heap.size, 5, none⟩ = some (.int .i64 x.n)) := fun W hW => HSE.out W _ (hak.keep hW) (OthK.of_below hW)
  have HLESS : Hid (∀ W, Below W1.heap.size W1 W → Calls Tryz.prog 99 #[.agg #[.int .i64 x.l.1, .int .i64 x.l.2], .agg #[.int .i64 x.r.1, .int .i64 x.r.2], .pointer (some ⟨sb, 0, none⟩)] W (OrLost W (if (thereV s x.l && thereV s x.r) = true then some (.int .i64 (cmpI (valV s x.l) (valV s x.r))) else none))) := by
    intro W hW
    have q := hbw.trans (hW.mono hbw.size)
    exact less_any (h.st.below q) (h.box.keep q) x.l x.r
  have HAK := Lib.hid hak
  have HBW := Lib.hid hbw.size
  obtain ⟨d1, d2, d5, c0, ⟨c1, c2, c3, c4⟩, c5⟩ := HSF.out _ (Below.refl _ _)
  clear h hbw hak hb1 x1 hbb
  have HE : Hid (askS s x R = if (thereV s x.l && thereV s x.r) = true then some (soB 7 (cmpI (valV s x.l) (valV s x.r)) :: R) else none) := by
    unfold Hid askS atomI
    rw [if_neg (by omega), if_neg (by omega), if_neg (by omega), if_neg (by omega), if_pos (by omega), soB_cmp, hx]
    cases (thereV s x.l && thereV s x.r) <;> rfl
  rw [HE.out]
  rw [hx] at c0 hW1 HSE HSF
  rw [hx]
  clear HE
  cases hth : (thereV s x.l && thereV s x.r)
  · rw [hth, if_neg (by decide)] at HLESS
    rw [if_neg (by decide)]
    clear hth HP HSE
    go_enter Tryz.func113, Tryz.ntmps113
    go_wp2_with fail
    refine wp_region_held_drew (S := (fun W => W.cell? ⟨b, 1, none⟩ = some (.int .i64 s.opn) ∧ W.cell? ⟨b, 2, none⟩ = some (.int .i64 s.dne) ∧ W.cell? ⟨b, 5, none⟩ = some (.func (.func 99) #[] #[.pointer (some ⟨sb, 0, none⟩)]) ∧ W.cell? ⟨w.heap.size, 0, none⟩ = some (.int .i64 7) ∧ (W.cell? ⟨w.heap.size, 1, none⟩ = some (.int .i64 x.l.1) ∧ W.cell? ⟨w.heap.size, 2, none⟩ = some (.int .i64 x.l.2) ∧ W.cell? ⟨w.heap.size, 3, none⟩ = some (.int .i64 x.r.1) ∧ W.cell? ⟨w.heap.size, 4, none⟩ = some (.int .i64 x.r.2)) ∧ W.cell? ⟨w.heap.size, 5, none⟩ = some (.int .i64 x.n))) (by kernel_rfl) ?_ (fun hHeld => ?_)
    · exact HSF.out _ ((Below.refl _ _).drew)
    refine wpAnyH_take (i := 0) (v := ?vh0) rfl (by kernel_rfl) (by kernel_rfl) (by kernel_rfl) (fun _ _ _ h => h) (Or.inl ⟨by rfl, ?yh0⟩) (by assumption) ?rh0
    case yh0 => ((intro w hSw; (try dsimp only at hSw); go_simp) <;> (try with_reducible rfl))
    (try go_simp)
    refine wpAnyH_take (i := 1) (v := ?vh1) rfl (by kernel_rfl) (by kernel_rfl) (by kernel_rfl) (fun _ _ _ h => h) (Or.inl ⟨by rfl, ?yh1⟩) (by assumption) ?rh1
    case yh1 => ((intro w hSw; (try dsimp only at hSw); go_simp) <;> (try with_reducible rfl))
    (try go_simp)
    refine wpAnyH_take (i := 2) (v := ?vh2) rfl (by kernel_rfl) (by kernel_rfl) (by kernel_rfl) (fun _ _ _ h => h) (Or.inl ⟨by rfl, ?yh2⟩) (by assumption) ?rh2
    case yh2 => ((intro w hSw; (try dsimp only at hSw); go_simp) <;> (try with_reducible rfl))
    (try go_simp)
    refine wpAnyH_take (i := 3) (v := ?vh3) rfl (by kernel_rfl) (by kernel_rfl) (by kernel_rfl) (fun _ _ _ h => h) (Or.inl ⟨by rfl, ?yh3⟩) (by assumption) ?rh3
    case yh3 => ((intro w hSw; (try dsimp only at hSw); go_simp) <;> (try with_reducible rfl))
    (try go_simp)
    refine wpAnyH_take (i := 4) (v := ?vh4) rfl (by kernel_rfl) (by kernel_rfl) (by kernel_rfl) (fun _ _ _ h => h) (Or.inl ⟨by rfl, ?yh4⟩) (by assumption) ?rh4
    case yh4 => ((intro w hSw; (try dsimp only at hSw); go_simp) <;> (try with_reducible rfl))
    (try go_simp)
    refine wpAnyH_take (i := 5) (v := ?vh5) rfl (by kernel_rfl) (by kernel_rfl) (by kernel_rfl) (fun _ _ _ h => h) (Or.inl ⟨by rfl, ?yh5⟩) (by assumption) ?rh5
    case yh5 => ((intro w hSw; (try dsimp only at hSw); go_simp) <;> (try with_reducible rfl))
    (try go_simp)
    refine wpAnyH_take (i := 6) (v := ?vh6) rfl (by kernel_rfl) (by kernel_rfl) (by kernel_rfl) (fun _ _ _ h => h) (Or.inl ⟨by rfl, ?yh6⟩) (by assumption) ?rh6
    case yh6 => ((intro w hSw; (try dsimp only at hSw); go_simp) <;> (try with_reducible rfl))
    (try go_simp)
    refine wpAnyH_take (i := 7) (v := ?vh7) rfl (by kernel_rfl) (by kernel_rfl) (by kernel_rfl) (fun _ _ _ h => h) (Or.inl ⟨by rfl, ?yh7⟩) (by assumption) ?rh7
    case yh7 => ((intro w hSw; (try dsimp only at hSw); go_simp) <;> (try with_reducible rfl))
    (try go_simp)
    refine wpAnyH_take (i := 8) (v := ?vh8) rfl (by kernel_rfl) (by kernel_rfl) (by kernel_rfl) (fun _ _ _ h => h) (Or.inl ⟨by rfl, ?yh8⟩) (by assumption) ?rh8
    case yh8 => ((intro w hSw; (try dsimp only at hSw); go_simp) <;> (try with_reducible rfl))
    (try go_simp)
    refine wpAnyH_take (i := 9) (v := ?vh9) rfl (by kernel_rfl) (by kernel_rfl) (by kernel_rfl) (fun _ _ _ h => h) (Or.inl ⟨by rfl, ?yh9⟩) (by assumption) ?rh9
    case yh9 => ((intro w hSw; (try dsimp only at hSw); go_simp) <;> (try with_reducible rfl))
    (try go_simp)
    refine wpAnyH_take (i := 10) (v := ?vh10) rfl (by kernel_rfl) (by kernel_rfl) (by kernel_rfl) (fun _ _ _ h => h) (Or.inl ⟨by rfl, ?yh10⟩) (by assumption) ?rh10
    case yh10 => ((intro w hSw; (try dsimp only at hSw); go_simp) <;> (try with_reducible rfl))
    (try go_simp)
    refine wpAnyH_ready (rs := [11]) (by kernel_rfl) (by simp) ?_
    refine AllReadyH.cons rfl (fun K hK => ?_) AllReadyH.nil
    go_simp
    go_at_call 99
    refine (HLESS.out _ ((Below.refl _ _).drew)).mono ?_
    rintro e w7 ⟨rfl, hb7⟩
    have hbz := (Below.refl W1.heap.size W1).drew.trans (hb7.mono (Nat.le_refl _))
    exact ⟨rfl, rfl, HB1.out.trans (hbz.mono HBW.out), HO1.out.trans (OthK.of_below hbz)⟩
  · rw [hth, if_pos rfl] at HLESS
    rw [if_pos rfl]
    clear hth
    go_enter Tryz.func113, Tryz.ntmps113
    go_wp2_with fail
    have hbz : Below W1.heap.size W1 W1.drew := (Below.refl _ _).drew
    first
    | (go_region_held3 (fun W => W.cell? ⟨b, 1, none⟩ = some (.int .i64 s.opn) ∧ W.cell? ⟨b, 2, none⟩ = some (.int .i64 s.dne) ∧ W.cell? ⟨b, 5, none⟩ = some (.func (.func 99) #[] #[.pointer (some ⟨sb, 0, none⟩)]) ∧ W.cell? ⟨w.heap.size, 0, none⟩ = some (.int .i64 7) ∧ (W.cell? ⟨w.heap.size, 1, none⟩ = some (.int .i64 x.l.1) ∧ W.cell? ⟨w.heap.size, 2, none⟩ = some (.int .i64 x.l.2) ∧ W.cell? ⟨w.heap.size, 3, none⟩ = some (.int .i64 x.r.1) ∧ W.cell? ⟨w.heap.size, 4, none⟩ = some (.int .i64 x.r.2)) ∧ W.cell? ⟨w.heap.size, 5, none⟩ = some (.int .i64 x.n))
        (first | exact HSF.out _ (by assumption) | assumption | go_keep)
        (first
          | (go_simp; go_at_call 99; (with_reducible refine (HLESS.out _ hbz).mono ?_)
             rintro e w7 ⟨rfl, hb7⟩
             have hbz := hbz.trans (hb7.mono hbz.size)
             clear hb7)
          | (go_simp; go_at_call 120; (with_reducible refine (so_any _ _ _).mono ?_)
             rintro e w7 ⟨rfl, rfl⟩)
          | (go_simp; go_at_call 119; (with_reducible refine (HP.out _ _ _ (HB1.out.trans (hbz.mono HBW.out)) (HO1.out.trans (OthK.of_below hbz)) (HAK.out.keep hbz) (by omega)).mono ?_)
             rintro e w8 ⟨⟨rfl, ha, hB, hO⟩, hO2⟩
             have hS8 := HSE.out w8 _ ha ((OthK.of_below hbz).trans hO2))))
    | fail
    all_goals
      go_wp2
      refine bodyPost_ret (results_none rfl _ _ _) rfl ?_
      exact ⟨rfl, ha, hB, hO⟩

set_option maxRecDepth 100000 in
set_option maxHeartbeats 4000000 in
theorem astep_c8 {wb w : World} {b sb : Nat} {v0 v3 v4 : Value} {s : Sta} {R : List Bool} (h : AkW wb w b sb v0 v3 v4 s R) (hl : R.length ≤ 900) (x : Ins) (hx : x.op = 8) :
    Calls Tryz.prog 113 #[.pointer (some ⟨b, 0, none⟩), insV x] w (StepPost wb.heap.size w b v0 (.int .i64 s.opn) (.int .i64 s.dne) v3 v4 (lessF sb) (askS s x R)) := by
  unfold insV
  obtain ⟨W1, hW1⟩ : ∃ W1, w.alloc (.cells #[.int .i64 x.op, .int .i64 x.l.1, .int .i64 x.l.2, .int .i64 x.r.1, .int .i64 x.r.2, .int .i64 x.n, .int .i64 x.user] 37) = W1 := ⟨_, rfl⟩
  have hb1 : Below w.heap.size w W1 := by rw [← hW1]; exact (Below.refl _ w).alloc (Nat.le_refl _) _
  have hbw : Below wb.heap.size wb W1 := h.low.trans (hb1.mono h.low.size)
  have x1 : Blk W1 w.heap.size #[.int .i64 x.op, .int .i64 x.l.1, .int .i64 x.l.2, .int .i64 x.r.1, .int .i64 x.r.2, .int .i64 x.n, .int .i64 x.user] 37 := by rw [← hW1]; exact Blk.new _ _ _
  have hak : AkB wb.heap.size W1 b v0 (.int .i64 s.opn) (.int .i64 s.dne) v3 v4 (lessF sb) R := h.ak.keep hb1
  have hbb : b < w.heap.size := by obtain ⟨_, hb, _⟩ := h.ak; exact hb.lt
  have HB1 := Lib.hid (hb1.mono h.low.size)
  have HO1 := Lib.hid (OthK.of_below (b := b) hb1)
  have HP : Hid (∀ (W : World) (t : Bool) (Q : List Bool), Below wb.heap.size w W → OthK w W b → AkB wb.heap.size W b v0 (.int .i64 s.opn) (.int .i64 s.dne) v3 v4 (lessF sb) Q → Q.length ≤ 902 → Calls Tryz.prog 119 #[.pointer (some ⟨b, 0, none⟩), .bool t] W fun e w' => AkPost wb.heap.size w b v0 (.int .i64 s.opn) (.int .i64 s.dne) v3 v4 (lessF sb) (t :: Q) (.tuple #[]) e w' ∧ OthK W w' b) := by
    intro W t Q hW hO hA hQ
    refine (apush_any hA (by omega) t).mono ?_
    rintro e w' ⟨he, ha, hB, hO2⟩
    exact ⟨⟨he, ha, hW.trans hB, hO.trans hO2⟩, hO2⟩
  have HSE : Hid (∀ (W : World) (Q : List Bool), AkB wb.heap.size W b v0 (.int .i64 s.opn) (.int .i64 s.dne) v3 v4 (lessF sb) Q → OthK W1 W b → W.cell? ⟨b, 1, none⟩ = some (.int .i64 s.opn) ∧ W.cell? ⟨b, 2, none⟩ = some (.int .i64 s.dne) ∧ W.cell? ⟨b, 5, none⟩ = some (.func (.func 99) #[] #[.pointer (some ⟨sb, 0, none⟩)]) ∧ W.cell? ⟨w.heap.size, 0, none⟩ = some (.int .i64 x.op) ∧ (W.cell? ⟨w.heap.size, 1, none⟩ = some (.int .i64 x.l.1) ∧ W.cell? ⟨w.heap.size, 2, none⟩ = some (.int .i64 x.l.2) ∧ W.cell? ⟨w.heap.size, 3, none⟩ = some (.int .i64 x.r.1) ∧ W.cell? ⟨w.heap.size, 4, none⟩ = some (.int .i64 x.r.2)) ∧ W.cell? ⟨w.heap.size, 5, none⟩ = some (.int .i64 x.n)) := by
    intro W Q hA hO
    obtain ⟨rv, y, _, _⟩ := hA
    have y1 := hO _ _ _ (by omega) (by decide) x1
    exact ⟨y.cell rfl, y.cell rfl, y.cell rfl, y1.cell rfl, ⟨y1.cell rfl, y1.cell rfl, y1.cell rfl, y1.cell rfl⟩, y1.cell rfl⟩
  have HSF : Hid (∀ W, Below W1.heap.size W1 W → W.cell? ⟨b, 1, none⟩ = some (.int .i64 s.opn) ∧ W.cell? ⟨b, 2, none⟩ = some (.int .i64 s.dne) ∧ W.cell? ⟨b, 5, none⟩ = some (.func (.func 99) #[] #[.pointer (some ⟨sb, 0, none⟩)]) ∧ W.cell? ⟨w.heap.size, 0, none⟩ = some (.int .i64 x.op) ∧ (W.cell? ⟨w.heap.size, 1, none⟩ = some (.int .i64 x.l.1) ∧ W.cell? ⟨w.heap.size, 2, none⟩ = some (.int .i64 x.l.2) ∧ W.cell? ⟨w.heap.size, 3, none⟩ = some (.int .i64 x.r.1) ∧ W.cell? ⟨w.heap.size, 4, none⟩ = some (.int .i64 x.r.2)) ∧ W.cell? ⟨w.heap.size, 5, none⟩ = some (.int .i64 x.n)) := fun W hW => HSE.out W _ (hak.keep hW) (OthK.of_below hW)
  have HLESS : Hid (∀ W, Below W1.heap.size W1 W → Calls Tryz.prog 99 #[.agg #[.int .i64 x.l.1, .int .i64 x.l.2], .agg #[.int .i64 x.r.1, .int .i64 x.r.2], .pointer (some ⟨sb, 0, none⟩)] W (OrLost W (if (thereV s x.l && thereV s x.r) = true then some (.int .i64 (cmpI (valV s x.l) (valV s x.r))) else none))) := by
    intro W hW
    have q := hbw.trans (hW.mono hbw.size)
    exact less_any (h.st.below q) (h.box.keep q) x.l x.r
  have HAK := Lib.hid hak
  have HBW := Lib.hid hbw.size
  obtain ⟨d1, d2, d5, c0, ⟨c1, c2, c3, c4⟩, c5⟩ := HSF.out _ (Below.refl _ _)
  clear h hbw hak hb1 x1 hbb
  have HE : Hid (askS s x R = if (thereV s x.l && thereV s x.r) = true then some (soB 8 (cmpI (valV s x.l) (valV s x.r)) :: R) else none) := by
    unfold Hid askS atomI
    rw [if_neg (by omega), if_neg (by omega), if_neg (by omega), if_neg (by omega), if_pos (by omega), soB_cmp, hx]
    cases (thereV s x.l && thereV s x.r) <;> rfl
  rw [HE.out]
  rw [hx] at c0 hW1 HSE HSF
  rw [hx]
  clear HE
  cases hth : (thereV s x.l && thereV s x.r)
  · rw [hth, if_neg (by decide)] at HLESS
    rw [if_neg (by decide)]
    clear hth HP HSE
    go_enter Tryz.func113, Tryz.ntmps113
    go_wp2_with fail
    refine wp_region_held_drew (S := (fun W => W.cell? ⟨b, 1, none⟩ = some (.int .i64 s.opn) ∧ W.cell? ⟨b, 2, none⟩ = some (.int .i64 s.dne) ∧ W.cell? ⟨b, 5, none⟩ = some (.func (.func 99) #[] #[.pointer (some ⟨sb, 0, none⟩)]) ∧ W.cell? ⟨w.heap.size, 0, none⟩ = some (.int .i64 8) ∧ (W.cell? ⟨w.heap.size, 1, none⟩ = some (.int .i64 x.l.1) ∧ W.cell? ⟨w.heap.size, 2, none⟩ = some (.int .i64 x.l.2) ∧ W.cell? ⟨w.heap.size, 3, none⟩ = some (.int .i64 x.r.1) ∧ W.cell? ⟨w.heap.size, 4, none⟩ = some (.int .i64 x.r.2)) ∧ W.cell? ⟨w.heap.size, 5, none⟩ = some (.int .i64 x.n))) (by kernel_rfl) ?_ (fun hHeld => ?_)
    · exact HSF.out _ ((Below.refl _ _).drew)
    refine wpAnyH_take (i := 0) (v := ?vi0) rfl (by kernel_rfl) (by kernel_rfl) (by kernel_rfl) (fun _ _ _ h => h) (Or.inl ⟨by rfl, ?yi0⟩) (by assumption) ?ri0
    case yi0 => ((intro w hSw; (try dsimp only at hSw); go_simp) <;> (try with_reducible rfl))
    (try go_simp)
    refine wpAnyH_take (i := 1) (v := ?vi1) rfl (by kernel_rfl) (by kernel_rfl) (by kernel_rfl) (fun _ _ _ h => h) (Or.inl ⟨by rfl, ?yi1⟩) (by assumption) ?ri1
    case yi1 => ((intro w hSw; (try dsimp only at hSw); go_simp) <;> (try with_reducible rfl))
    (try go_simp)
    refine wpAnyH_take (i := 2) (v := ?vi2) rfl (by kernel_rfl) (by kernel_rfl) (by kernel_rfl) (fun _ _ _ h => h) (Or.inl ⟨by rfl, ?yi2⟩) (by assumption) ?ri2
    case yi2 => ((intro w hSw; (try dsimp only at hSw); go_simp) <;> (try with_reducible rfl))
    (try go_simp)
    refine wpAnyH_take (i := 3) (v := ?vi3) rfl (by kernel_rfl) (by kernel_rfl) (by kernel_rfl) (fun _ _ _ h => h) (Or.inl ⟨by rfl, ?yi3⟩) (by assumption) ?ri3
    case yi3 => ((intro w hSw; (try dsimp only at hSw); go_simp) <;> (try with_reducible rfl))
    (try go_simp)
    refine wpAnyH_take (i := 4) (v := ?vi4) rfl (by kernel_rfl) (by kernel_rfl) (by kernel_rfl) (fun _ _ _ h => h) (Or.inl ⟨by rfl, ?yi4⟩) (by assumption) ?ri4
    case yi4 => ((intro w hSw; (try dsimp only at hSw); go_simp) <;> (try with_reducible rfl))
    (try go_simp)
    refine wpAnyH_take (i := 5) (v := ?vi5) rfl (by kernel_rfl) (by kernel_rfl) (by kernel_rfl) (fun _ _ _ h => h) (Or.inl ⟨by rfl, ?yi5⟩) (by assumption) ?ri5
    case yi5 => ((intro w hSw; (try dsimp only at hSw); go_simp) <;> (try with_reducible rfl))
    (try go_simp)
    refine wpAnyH_take (i := 6) (v := ?vi6) rfl (by kernel_rfl) (by kernel_rfl) (by kernel_rfl) (fun _ _ _ h => h) (Or.inl ⟨by rfl, ?yi6⟩) (by assumption) ?ri6
    case yi6 => ((intro w hSw; (try dsimp only at hSw); go_simp) <;> (try with_reducible rfl))
    (try go_simp)
    refine wpAnyH_take (i := 7) (v := ?vi7) rfl (by kernel_rfl) (by kernel_rfl) (by kernel_rfl) (fun _ _ _ h => h) (Or.inl ⟨by rfl, ?yi7⟩) (by assumption) ?ri7
    case yi7 => ((intro w hSw; (try dsimp only at hSw); go_simp) <;> (try with_reducible rfl))
    (try go_simp)
    refine wpAnyH_take (i := 8) (v := ?vi8) rfl (by kernel_rfl) (by kernel_rfl) (by kernel_rfl) (fun _ _ _ h => h) (Or.inl ⟨by rfl, ?yi8⟩) (by assumption) ?ri8
    case yi8 => ((intro w hSw; (try dsimp only at hSw); go_simp) <;> (try with_reducible rfl))
    (try go_simp)
    refine wpAnyH_take (i := 9) (v := ?vi9) rfl (by kernel_rfl) (by kernel_rfl) (by kernel_rfl) (fun _ _ _ h => h) (Or.inl ⟨by rfl, ?yi9⟩) (by assumption) ?ri9
    case yi9 => ((intro w hSw; (try dsimp only at hSw); go_simp) <;> (try with_reducible rfl))
    (try go_simp)
    refine wpAnyH_take (i := 10) (v := ?vi10) rfl (by kernel_rfl) (by kernel_rfl) (by kernel_rfl) (fun _ _ _ h => h) (Or.inl ⟨by rfl, ?yi10⟩) (by assumption) ?ri10
    case yi10 => ((intro w hSw; (try dsimp only at hSw); go_simp) <;> (try with_reducible rfl))
    (try go_simp)
    refine wpAnyH_ready (rs := [11]) (by kernel_rfl) (by simp) ?_
    refine AllReadyH.cons rfl (fun K hK => ?_) AllReadyH.nil
    go_simp
    go_at_call 99
    refine (HLESS.out _ ((Below.refl _ _).drew)).mono ?_
    rintro e w7 ⟨rfl, hb7⟩
    have hbz := (Below.refl W1.heap.size W1).drew.trans (hb7.mono (Nat.le_refl _))
    exact ⟨rfl, rfl, HB1.out.trans (hbz.mono HBW.out), HO1.out.trans (OthK.of_below hbz)⟩
  · rw [hth, if_pos rfl] at HLESS
    rw [if_pos rfl]
    clear hth
    go_enter Tryz.func113, Tryz.ntmps113
    go_wp2_with fail
    have hbz : Below W1.heap.size W1 W1.drew := (Below.refl _ _).drew
    first
    | (go_region_held3 (fun W => W.cell? ⟨b, 1, none⟩ = some (.int .i64 s.opn) ∧ W.cell? ⟨b, 2, none⟩ = some (.int .i64 s.dne) ∧ W.cell? ⟨b, 5, none⟩ = some (.func (.func 99) #[] #[.pointer (some ⟨sb, 0, none⟩)]) ∧ W.cell? ⟨w.heap.size, 0, none⟩ = some (.int .i64 8) ∧ (W.cell? ⟨w.heap.size, 1, none⟩ = some (.int .i64 x.l.1) ∧ W.cell? ⟨w.heap.size, 2, none⟩ = some (.int .i64 x.l.2) ∧ W.cell? ⟨w.heap.size, 3, none⟩ = some (.int .i64 x.r.1) ∧ W.cell? ⟨w.heap.size, 4, none⟩ = some (.int .i64 x.r.2)) ∧ W.cell? ⟨w.heap.size, 5, none⟩ = some (.int .i64 x.n))
        (first | exact HSF.out _ (by assumption) | assumption | go_keep)
        (first
          | (go_simp; go_at_call 99; (with_reducible refine (HLESS.out _ hbz).mono ?_)
             rintro e w7 ⟨rfl, hb7⟩
             have hbz := hbz.trans (hb7.mono hbz.size)
             clear hb7)
          | (go_simp; go_at_call 120; (with_reducible refine (so_any _ _ _).mono ?_)
             rintro e w7 ⟨rfl, rfl⟩)
          | (go_simp; go_at_call 119; (with_reducible refine (HP.out _ _ _ (HB1.out.trans (hbz.mono HBW.out)) (HO1.out.trans (OthK.of_below hbz)) (HAK.out.keep hbz) (by omega)).mono ?_)
             rintro e w8 ⟨⟨rfl, ha, hB, hO⟩, hO2⟩
             have hS8 := HSE.out w8 _ ha ((OthK.of_below hbz).trans hO2))))
    | fail
    all_goals
      go_wp2
      refine bodyPost_ret (results_none rfl _ _ _) rfl ?_
      exact ⟨rfl, ha, hB, hO⟩

theorem astep_any {wb w : World} {b sb : Nat} {v0 v3 v4 : Value} {s : Sta} {R : List Bool} (h : AkW wb w b sb v0 v3 v4 s R) (hl : R.length ≤ 900) (x : Ins) :
    Calls Tryz.prog 113 #[.pointer (some ⟨b, 0, none⟩), insV x] w (StepPost wb.heap.size w b v0 (.int .i64 s.opn) (.int .i64 s.dne) v3 v4 (lessF sb) (askS s x R)) := by
  rcases (show (x.op = 1 ∨ x.op = 2) ∨ x.op = 3 ∨ x.op = 4 ∨ x.op = 5 ∨ x.op = 6 ∨ x.op = 7 ∨ x.op = 8 ∨ (x.op = 9 ∨ x.op = 10) ∨ x.op = 15 ∨ x.op = 16 ∨ x.op = 17 ∨ x.op = 18 ∨ (x.op < 1 ∨ (10 < x.op ∧ x.op < 15) ∨ 18 < x.op) by omega) with q | q | q | q | q | q | q | q | q | q | q | q | q
  · exact astep_tf h hl x q
  · exact astep_c3 h hl x q
  · exact astep_c4 h hl x q
  · exact astep_c5 h hl x q
  · exact astep_c6 h hl x q
  · exact astep_c7 h hl x q
  · exact astep_c8 h hl x q
  · exact astep_od h hl x q
  · exact astep_not h hl x q
  · exact astep_b16 h hl x q
  · exact astep_b17 h hl x q
  · exact astep_b18 h hl x q
  · exact astep_bad h hl x q
end Go.Proofs.YtadjnfpomjopkaaGreat
